/- The handlers that only turn the layers beneath, walked. (Made by tools/mk_hand.py.) -/
import Derived.Test.Qxb6500666aGreatDoorHand1
namespace Go.Proofs.Qxb6500666aGreatDoor
open Go.RowKit

attribute [local go_sem] ext_const Ext.cell Ext.frozen Ext.rng Ext.whole
attribute [local go_sem ↓] exec_ldPrS exec_stPrS exec_ldKtS exec_stKtS exec_ldSmS exec_stSmS
attribute [local go_sem] run_ldPrS run_stPrS run_ldKtS run_stKtS run_ldSmS run_stSmS whole_alloc_lt whole_alloc_at whole_drew setRow_alloc_at setRow_alloc_lt rng_alloc_lt rng_alloc_at rng_drew rng_drewN rng_setCell_other whole_setCell_other

set_option maxRecDepth 100000 in
set_option maxHeartbeats 2000000 in
theorem hAcc_calls (w : World) (S D : Nat) (ok : Nat → Prop) (r : Req) (lv : Value) (s : Stat) (x : LV) (wv : Value) (iss : Int) (L : Low) (hd : DraftAt w D r lv s x wv iss) (hlow : LowAt w ok x L) (hl : L.Small) (hokD : ∀ b, ok b → b ≠ D) (hok : ∀ b, w.heap.size ≤ b → ok b) :
    Calls Tryz.prog 291 #[.pointer (some ⟨S, 0, none⟩), .pointer (some ⟨D, 0, none⟩)] w fun e w' => HPost w w' D ok r lv s wv iss e { L with sm := (accession L.sm ⟨r.id, r.kit, r.subject, r.visit, r.cls, r.time, r.till, false⟩).1 } (accession L.sm ⟨r.id, r.kit, r.subject, r.visit, r.cls, r.time, r.till, false⟩).2 := by
  have hDl := hd.lt
  obtain ⟨g21, g25, g26⟩ := hd.rng
  have hc := hd.cells.2
  have q3 := hc 3
  have q5 := hc 5
  have q6 := hc 6
  have q7 := hc 7
  have q9 := hc 9
  have q10 := hc 10
  have q11 := hc 11
  simp only [draftCs, List.getElem?_toArray, List.getElem?_cons_succ, List.getElem?_cons_zero] at q3 q5 q6 q7 q9 q10 q11
  have HD := hide hd
  have HL := hide hlow
  obtain ⟨p0, p1, p2, p3, k, s1, s2, s3⟩ := x
  simp only at g21 g25 g26
  clear hc hd hlow
  go_enter Tryz.func291, Tryz.ntmps291
  go_upto_region 1 with fail
  refine wp_region_mixT (w.heap.size) [4, 9, 14, 19, 24, 29, 34, 39] (by kernel_rfl) ?_
  refine mixT_slots [0, 1, 2, 3, 5, 6, 7, 8, 10, 11, 12, 13, 15, 16, 17, 18, 20, 21, 22, 23, 25, 26, 27, 28, 30, 31, 32, 33, 35, 36, 37, 38] (fuel := 16) rfl (by kernel_rfl) (by kernel_rfl) (fun d _ _ _ _ h => by cases d <;> exact h) ?_
  simp only [opersAt, List.getElem?_toArray, List.getElem?_cons_zero, List.getElem?_cons_succ]
  repeat (go_big_quiet_step (fail))
  refine wpQuiet_nil ?_
  refine mixT_reads [4, 9, 14, 19, 24, 29, 34, 39] (fuel := 8) rfl (by kernel_rfl) (by decide) (by kernel_rfl) (fun d _ _ _ _ h => by cases d <;> exact h) (ext_drew _ _) ?_
  simp only [opersAt, List.getElem?_toArray, List.getElem?_cons_zero, List.getElem?_cons_succ]
  repeat (go_big_quiet_step (fail))
  refine wpQuiet_nil ?_
  refine mixT_slots [40] (fuel := 7) rfl (by kernel_rfl) (by kernel_rfl) (fun d _ _ _ _ h => by cases d <;> exact h) ?_
  simp only [opersAt, List.getElem?_toArray, List.getElem?_cons_zero, List.getElem?_cons_succ]
  repeat (go_big_quiet_step (fail))
  refine wpQuiet_nil ?_
  refine mixT_two (k := 41) (k' := 45) (by kernel_rfl) rfl rfl ?_ ?_
  · go_wp2_with (go_at_call 194; refine (accession_calls _ ok _ _ _ L.sm r.id r.kit r.subject r.visit r.cls r.time r.till false (HL.out.sm.below (Below.refl _ _).drew) hl.sm hok).mono ?_; rintro e w1 ⟨y0, y1, y2, rfl, hpr, hb1⟩; obtain ⟨⟨a0, n0, c0, rfl⟩, ⟨a1, n1, c1, rfl⟩, ⟨a2, n2, c2, rfl⟩⟩ := hpr.forms)
    have hbw : Below w.heap.size w w1 := (Below.refl _ _).drew.trans hb1
    refine ⟨Or.inr (by intros; exact ⟨⟨_, hbw⟩, rfl⟩), ?_⟩
    have hzz := hbw.size
    have HPR := hide hpr
    have HBW := hide hbw
    have hov : ∀ b0 m0 d0 b1 m1 d1 b2 m2 d2, ones #[.slice b0 m0 d0, .slice b1 m1 d1, .slice b2 m2 d2] 3 = true := fun _ _ _ _ _ _ _ _ _  => rfl
    clear hpr hb1 hbw
    refine mixT_slots [42, 43, 44] (fuel := 3) rfl (by kernel_rfl) (by kernel_rfl) (fun d _ _ _ _ h => by cases d <;> exact h) ?_
    simp only [opersAt, List.getElem?_toArray, List.getElem?_cons_zero, List.getElem?_cons_succ]
    repeat (go_big_quiet_step (fail))
    refine wpQuiet_nil ?_
    refine mixT_one (k := 45) (by kernel_rfl) rfl ?_
    go_wp2
    refine ⟨Or.inr (by intros; exact ⟨⟨_, HBW.out.alloc hzz _⟩, rfl⟩), ?_⟩
    refine mixT_one (k := 46) (by kernel_rfl) rfl ?_
    go_wp2
    refine ⟨Or.inl (by kernel_rfl), ?_⟩
    refine mixT_one (k := 47) (by kernel_rfl) rfl ?_
    go_wp2
    refine ⟨Or.inr (fun h => h), ?_⟩
    refine mixT_nil (by kernel_rfl) ?_
    go_upto_region 2 with fail
    have HV := hide (HBW.out.alloc hzz (.cells #[.slice a0 n0 c0, .slice a1 n1 c1, .slice a2 n2 c2] 40))
    have hvb : (w1.alloc (.cells #[.slice a0 n0 c0, .slice a1 n1 c1, .slice a2 n2 c2] 40)).heap[w1.heap.size]? = some (.cells #[.slice a0 n0 c0, .slice a1 n1 c1, .slice a2 n2 c2] 40 (0, 0)) := heap_alloc_at _ _
    have HPV := hide (HPR.out.below ((Below.refl _ _).alloc (Nat.le_refl _) (.cells #[.slice a0 n0 c0, .slice a1 n1 c1, .slice a2 n2 c2] 40)))
    generalize hg : w1.heap.size = g at *
    generalize (World.alloc w1 _) = V at *
    have hrv : rng V g 0 3 = some #[.slice a0 n0 c0, .slice a1 n1 c1, .slice a2 n2 c2] := rng_whole hvb
    have hgv := blk_lt hvb
    clear hvb HBW HPR hg hzz q3 q5 q6 q7 q9 q10 q11 g21 g25 g26
    refine wp_region_mixT (V.heap.size) [4] (by kernel_rfl) ?_
    refine mixT_slots [0, 1, 2, 3, 5] (fuel := 3) rfl (by kernel_rfl) (by kernel_rfl) (fun d _ _ _ _ h => by cases d <;> exact h) ?_
    simp only [opersAt, List.getElem?_toArray, List.getElem?_cons_zero, List.getElem?_cons_succ]
    repeat (go_big_quiet_step (fail))
    refine wpQuiet_nil ?_
    refine mixT_reads [4] (fuel := 2) rfl (by kernel_rfl) (by decide) (by kernel_rfl) (fun d _ _ _ _ h => by cases d <;> exact h) (ext_drew _ _) ?_
    simp only [opersAt, List.getElem?_toArray, List.getElem?_cons_zero, List.getElem?_cons_succ]
    repeat (go_big_quiet_step (fail))
    refine wpQuiet_nil ?_
    refine mixT_one (k := 6) (by kernel_rfl) rfl ?_
    go_wp2_with (go_at_call 306; refine (settleSm_calls _ D r lv s _ wv iss (HD.out.below HV.out.drew) _ _ _  _ (by intro v hv; simp only [List.mem_cons, List.not_mem_nil, or_false] at hv; rcases hv with rfl | rfl | rfl <;> exact ⟨_, _, _, rfl⟩)).mono ?_; rintro e w3 ⟨rfl, hd3, ho3, -, hb3⟩)
    refine ⟨Or.inl (by kernel_rfl), ?_⟩
    refine mixT_one (k := 7) (by kernel_rfl) rfl ?_
    go_wp2
    refine ⟨Or.inr (fun h => h), ?_⟩
    refine mixT_nil (by kernel_rfl) ?_
    go_wp2
    go_ret
    exact HPost.ofSm HL.out hokD HV.out.drew hDl (HPV.out.below (Below.refl _ _).drew) (acc_low L.sm _) hd3 ho3 hb3
  · go_wp2
    have hb0 : Below w.heap.size w (w.drew.alloc (.cells #[.slice none 0 0, .slice none 0 0, .slice none 0 0] 40)) := (Below.refl _ _).drew.alloc (Nat.le_refl _) _
    refine ⟨Or.inr (by intros; exact ⟨⟨_, hb0⟩, rfl⟩), ?_⟩
    have HB0 := hide hb0
    clear hb0
    refine mixT_one (k := 41) (by kernel_rfl) rfl ?_
    have hok' : ∀ b, (w.drew.alloc (.cells #[.slice none 0 0, .slice none 0 0, .slice none 0 0] 40)).heap.size ≤ b → ok b ∧ b ≠ w.heap.size := fun b hb => by
      have h9 : (w.drew.alloc (.cells #[.slice none 0 0, .slice none 0 0, .slice none 0 0] 40)).heap.size = w.heap.size + 1 := by simp
      exact ⟨hok b (by omega), by omega⟩
    have HLA := hide (HL.out.lt.mono (ok' := fun b => (ok b ∧ b ≠ w.heap.size) ∧ b < w.heap.size) (fun _ _ => rfl) (fun b hb => ⟨⟨hb.1, by have := hb.2; omega⟩, hb.2⟩))
    have HLB : Hid (LowAt (w.drew.alloc (.cells #[.slice none 0 0, .slice none 0 0, .slice none 0 0] 40)) (fun b => ok b ∧ b ≠ w.heap.size) ⟨p0, p1, p2, p3, k, s1, s2, s3⟩ L) := HLA.out.mono (fun b hb => HB0.out.block b hb.2) (fun _ hb => hb.1)
    go_wp2_with (go_at_call 194; refine (accession_calls _ (fun b => ok b ∧ b ≠ w.heap.size) _ _ _ L.sm r.id r.kit r.subject r.visit r.cls r.time r.till false HLB.out.sm hl.sm hok').mono ?_; rintro e w1 ⟨y0, y1, y2, rfl, hpr, hb1⟩; obtain ⟨⟨a0, n0, c0, rfl⟩, ⟨a1, n1, c1, rfl⟩, ⟨a2, n2, c2, rfl⟩⟩ := hpr.forms)
    have hbw : Below w.heap.size w w1 := HB0.out.trans (hb1.mono HB0.out.size)
    refine ⟨Or.inr (by intros; exact ⟨⟨_, hbw⟩, rfl⟩), ?_⟩
    have hzz := hbw.size
    have hgb : w1.heap[w.heap.size]? = some (.cells #[.slice none 0 0, .slice none 0 0, .slice none 0 0] 40 (0, 0)) := (hb1.block _ (by simp)).trans (heap_alloc_at _ _)
    have hwg : whole w1 w.heap.size 3 = true := whole_blk hgb
    have hgl := blk_lt hgb
    have HGB := hide hgb
    have HPR := hide hpr
    have HBW := hide hbw
    have hov : ∀ b0 m0 d0 b1 m1 d1 b2 m2 d2, ones #[.slice b0 m0 d0, .slice b1 m1 d1, .slice b2 m2 d2] 3 = true := fun _ _ _ _ _ _ _ _ _  => rfl
    clear hpr hb1 hbw hgb HB0 HLA HLB hok'
    refine mixT_slots [42, 43, 44] (fuel := 2) rfl (by kernel_rfl) (by kernel_rfl) (fun d _ _ _ _ h => by cases d <;> exact h) ?_
    simp only [opersAt, List.getElem?_toArray, List.getElem?_cons_zero, List.getElem?_cons_succ]
    repeat (go_big_quiet_step (fail))
    refine wpQuiet_nil ?_
    refine mixT_one (k := 46) (by kernel_rfl) rfl ?_
    go_wp2
    refine ⟨Or.inl (by kernel_rfl), ?_⟩
    refine mixT_one (k := 47) (by kernel_rfl) rfl ?_
    go_wp2
    refine ⟨Or.inr (fun h => h), ?_⟩
    refine mixT_nil (by kernel_rfl) ?_
    go_upto_region 2 with fail
    have HV : Hid (Below w.heap.size w (w1.setRow w.heap.size #[.slice a0 n0 c0, .slice a1 n1 c1, .slice a2 n2 c2])) := HBW.out.trans (below_setRow' _ _ (Nat.le_refl _))
    have hvb : (w1.setRow w.heap.size #[.slice a0 n0 c0, .slice a1 n1 c1, .slice a2 n2 c2]).heap[w.heap.size]? = some (.cells #[.slice a0 n0 c0, .slice a1 n1 c1, .slice a2 n2 c2] 40 (0, 0)) := heap_setRow_at HGB.out
    have HPV : Hid (SmAt (w1.setRow w.heap.size #[.slice a0 n0 c0, .slice a1 n1 c1, .slice a2 n2 c2]) ok (.slice a0 n0 c0) (.slice a1 n1 c1) (.slice a2 n2 c2) _) := HPR.out.mono (fun _ hb => setRow_other _ _ _ _ hb.2) (fun _ hb => hb.1)
    generalize (World.setRow w1 _ _) = V at *
    have hrv : rng V w.heap.size 0 3 = some #[.slice a0 n0 c0, .slice a1 n1 c1, .slice a2 n2 c2] := rng_whole hvb
    have hgv := blk_lt hvb
    clear hvb HBW HPR HGB hwg hgl hzz q3 q5 q6 q7 q9 q10 q11 g21 g25 g26
    refine wp_region_mixT (V.heap.size) [4] (by kernel_rfl) ?_
    refine mixT_slots [0, 1, 2, 3, 5] (fuel := 3) rfl (by kernel_rfl) (by kernel_rfl) (fun d _ _ _ _ h => by cases d <;> exact h) ?_
    simp only [opersAt, List.getElem?_toArray, List.getElem?_cons_zero, List.getElem?_cons_succ]
    repeat (go_big_quiet_step (fail))
    refine wpQuiet_nil ?_
    refine mixT_reads [4] (fuel := 2) rfl (by kernel_rfl) (by decide) (by kernel_rfl) (fun d _ _ _ _ h => by cases d <;> exact h) (ext_drew _ _) ?_
    simp only [opersAt, List.getElem?_toArray, List.getElem?_cons_zero, List.getElem?_cons_succ]
    repeat (go_big_quiet_step (fail))
    refine wpQuiet_nil ?_
    refine mixT_one (k := 6) (by kernel_rfl) rfl ?_
    go_wp2_with (go_at_call 306; refine (settleSm_calls _ D r lv s _ wv iss (HD.out.below HV.out.drew) _ _ _  _ (by intro v hv; simp only [List.mem_cons, List.not_mem_nil, or_false] at hv; rcases hv with rfl | rfl | rfl <;> exact ⟨_, _, _, rfl⟩)).mono ?_; rintro e w3 ⟨rfl, hd3, ho3, -, hb3⟩)
    refine ⟨Or.inl (by kernel_rfl), ?_⟩
    refine mixT_one (k := 7) (by kernel_rfl) rfl ?_
    go_wp2
    refine ⟨Or.inr (fun h => h), ?_⟩
    refine mixT_nil (by kernel_rfl) ?_
    go_wp2
    go_ret
    exact HPost.ofSm HL.out hokD HV.out.drew hDl (HPV.out.below (Below.refl _ _).drew) (acc_low L.sm _) hd3 ho3 hb3

set_option maxRecDepth 100000 in
set_option maxHeartbeats 2000000 in
theorem hAmend_calls (w : World) (S D : Nat) (ok : Nat → Prop) (r : Req) (lv : Value) (s : Stat) (x : LV) (wv : Value) (iss : Int) (L : Low) (okv : Nat → Prop) (hvis : RArr w okv 1 u32Cs lv r.list) (hd : DraftAt w D r lv s x wv iss) (hlow : LowAt w ok x L) (hl : L.Small) (hokD : ∀ b, ok b → b ≠ D) (hok : ∀ b, w.heap.size ≤ b → ok b) :
    Calls Tryz.prog 286 #[.pointer (some ⟨S, 0, none⟩), .pointer (some ⟨D, 0, none⟩)] w fun e w' => HPost w w' D ok r lv s wv iss e { L with pr := (amendP L.pr r.time r.list).1 } (amendP L.pr r.time r.list).2 := by
  have hDl := hd.lt
  obtain ⟨g21, g25, g26⟩ := hd.rng
  have hc := hd.cells.2
  have q10 := hc 10
  have q16 := hc 16
  simp only [draftCs, List.getElem?_toArray, List.getElem?_cons_succ, List.getElem?_cons_zero] at q10 q16
  have HD := hide hd
  have HL := hide hlow
  obtain ⟨p0, p1, p2, p3, k, s1, s2, s3⟩ := x
  simp only at g21 g25 g26
  clear hc hd hlow
  go_enter Tryz.func286, Tryz.ntmps286
  go_upto_region 1 with fail
  refine wp_region_mixT (w.heap.size) [4, 9, 14] (by kernel_rfl) ?_
  refine mixT_slots [0, 1, 2, 3, 5, 6, 7, 8, 10, 11, 12, 13] (fuel := 10) rfl (by kernel_rfl) (by kernel_rfl) (fun d _ _ _ _ h => by cases d <;> exact h) ?_
  simp only [opersAt, List.getElem?_toArray, List.getElem?_cons_zero, List.getElem?_cons_succ]
  repeat (go_big_quiet_step (fail))
  refine wpQuiet_nil ?_
  refine mixT_reads [4, 9, 14] (fuel := 7) rfl (by kernel_rfl) (by decide) (by kernel_rfl) (fun d _ _ _ _ h => by cases d <;> exact h) (ext_drew _ _) ?_
  simp only [opersAt, List.getElem?_toArray, List.getElem?_cons_zero, List.getElem?_cons_succ]
  repeat (go_big_quiet_step (fail))
  refine wpQuiet_nil ?_
  refine mixT_two (k := 15) (k' := 19) (by kernel_rfl) rfl rfl ?_ ?_
  · go_wp2_with (go_at_call 188; refine (amend_calls _ ok okv _ _ _ _ _ L.pr r.time r.list (HL.out.pr.below (Below.refl _ _).drew) (hvis.below (Below.refl _ _).drew) hl.pr hok).mono ?_; rintro e w1 ⟨y0, y1, y2, y3, rfl, hpr, hb1⟩; obtain ⟨⟨a0, n0, c0, rfl⟩, ⟨a1, n1, c1, rfl⟩, ⟨a2, n2, c2, rfl⟩, ⟨a3, n3, c3, rfl⟩⟩ := hpr.forms)
    have hbw : Below w.heap.size w w1 := (Below.refl _ _).drew.trans hb1
    refine ⟨Or.inr (by intros; exact ⟨⟨_, hbw⟩, rfl⟩), ?_⟩
    have hzz := hbw.size
    have HPR := hide hpr
    have HBW := hide hbw
    have hov : ∀ b0 m0 d0 b1 m1 d1 b2 m2 d2 b3 m3 d3, ones #[.slice b0 m0 d0, .slice b1 m1 d1, .slice b2 m2 d2, .slice b3 m3 d3] 4 = true := fun _ _ _ _ _ _ _ _ _ _ _ _  => rfl
    clear hpr hb1 hbw
    refine mixT_slots [16, 17, 18] (fuel := 3) rfl (by kernel_rfl) (by kernel_rfl) (fun d _ _ _ _ h => by cases d <;> exact h) ?_
    simp only [opersAt, List.getElem?_toArray, List.getElem?_cons_zero, List.getElem?_cons_succ]
    repeat (go_big_quiet_step (fail))
    refine wpQuiet_nil ?_
    refine mixT_one (k := 19) (by kernel_rfl) rfl ?_
    go_wp2
    refine ⟨Or.inr (by intros; exact ⟨⟨_, HBW.out.alloc hzz _⟩, rfl⟩), ?_⟩
    refine mixT_one (k := 20) (by kernel_rfl) rfl ?_
    go_wp2
    refine ⟨Or.inl (by kernel_rfl), ?_⟩
    refine mixT_one (k := 21) (by kernel_rfl) rfl ?_
    go_wp2
    refine ⟨Or.inr (fun h => h), ?_⟩
    refine mixT_nil (by kernel_rfl) ?_
    go_upto_region 2 with fail
    have HV := hide (HBW.out.alloc hzz (.cells #[.slice a0 n0 c0, .slice a1 n1 c1, .slice a2 n2 c2, .slice a3 n3 c3] 32))
    have hvb : (w1.alloc (.cells #[.slice a0 n0 c0, .slice a1 n1 c1, .slice a2 n2 c2, .slice a3 n3 c3] 32)).heap[w1.heap.size]? = some (.cells #[.slice a0 n0 c0, .slice a1 n1 c1, .slice a2 n2 c2, .slice a3 n3 c3] 32 (0, 0)) := heap_alloc_at _ _
    have HPV := hide (HPR.out.below ((Below.refl _ _).alloc (Nat.le_refl _) (.cells #[.slice a0 n0 c0, .slice a1 n1 c1, .slice a2 n2 c2, .slice a3 n3 c3] 32)))
    generalize hg : w1.heap.size = g at *
    generalize (World.alloc w1 _) = V at *
    have hrv : rng V g 0 4 = some #[.slice a0 n0 c0, .slice a1 n1 c1, .slice a2 n2 c2, .slice a3 n3 c3] := rng_whole hvb
    have hgv := blk_lt hvb
    clear hvb HBW HPR hg hzz q10 q16 g21 g25 g26
    refine wp_region_mixT (V.heap.size) [4] (by kernel_rfl) ?_
    refine mixT_slots [0, 1, 2, 3, 5] (fuel := 3) rfl (by kernel_rfl) (by kernel_rfl) (fun d _ _ _ _ h => by cases d <;> exact h) ?_
    simp only [opersAt, List.getElem?_toArray, List.getElem?_cons_zero, List.getElem?_cons_succ]
    repeat (go_big_quiet_step (fail))
    refine wpQuiet_nil ?_
    refine mixT_reads [4] (fuel := 2) rfl (by kernel_rfl) (by decide) (by kernel_rfl) (fun d _ _ _ _ h => by cases d <;> exact h) (ext_drew _ _) ?_
    simp only [opersAt, List.getElem?_toArray, List.getElem?_cons_zero, List.getElem?_cons_succ]
    repeat (go_big_quiet_step (fail))
    refine wpQuiet_nil ?_
    refine mixT_one (k := 6) (by kernel_rfl) rfl ?_
    go_wp2_with (go_at_call 304; refine (settlePr_calls _ D r lv s _ wv iss (HD.out.below HV.out.drew) _ _ _ _  _ (by intro v hv; simp only [List.mem_cons, List.not_mem_nil, or_false] at hv; rcases hv with rfl | rfl | rfl | rfl <;> exact ⟨_, _, _, rfl⟩)).mono ?_; rintro e w3 ⟨rfl, hd3, ho3, -, hb3⟩)
    refine ⟨Or.inl (by kernel_rfl), ?_⟩
    refine mixT_one (k := 7) (by kernel_rfl) rfl ?_
    go_wp2
    refine ⟨Or.inr (fun h => h), ?_⟩
    refine mixT_nil (by kernel_rfl) ?_
    go_wp2
    go_ret
    exact HPost.ofPr HL.out hokD HV.out.drew hDl (HPV.out.below (Below.refl _ _).drew) (amend_low L.pr r.time r.list) hd3 ho3 hb3
  · go_wp2
    have hb0 : Below w.heap.size w (w.drew.alloc (.cells #[.slice none 0 0, .slice none 0 0, .slice none 0 0, .slice none 0 0] 32)) := (Below.refl _ _).drew.alloc (Nat.le_refl _) _
    refine ⟨Or.inr (by intros; exact ⟨⟨_, hb0⟩, rfl⟩), ?_⟩
    have HB0 := hide hb0
    clear hb0
    refine mixT_one (k := 15) (by kernel_rfl) rfl ?_
    have hok' : ∀ b, (w.drew.alloc (.cells #[.slice none 0 0, .slice none 0 0, .slice none 0 0, .slice none 0 0] 32)).heap.size ≤ b → ok b ∧ b ≠ w.heap.size := fun b hb => by
      have h9 : (w.drew.alloc (.cells #[.slice none 0 0, .slice none 0 0, .slice none 0 0, .slice none 0 0] 32)).heap.size = w.heap.size + 1 := by simp
      exact ⟨hok b (by omega), by omega⟩
    have HLA := hide (HL.out.lt.mono (ok' := fun b => (ok b ∧ b ≠ w.heap.size) ∧ b < w.heap.size) (fun _ _ => rfl) (fun b hb => ⟨⟨hb.1, by have := hb.2; omega⟩, hb.2⟩))
    have HLB : Hid (LowAt (w.drew.alloc (.cells #[.slice none 0 0, .slice none 0 0, .slice none 0 0, .slice none 0 0] 32)) (fun b => ok b ∧ b ≠ w.heap.size) ⟨p0, p1, p2, p3, k, s1, s2, s3⟩ L) := HLA.out.mono (fun b hb => HB0.out.block b hb.2) (fun _ hb => hb.1)
    go_wp2_with (go_at_call 188; refine (amend_calls _ (fun b => ok b ∧ b ≠ w.heap.size) okv _ _ _ _ _ L.pr r.time r.list HLB.out.pr (hvis.below HB0.out) hl.pr hok').mono ?_; rintro e w1 ⟨y0, y1, y2, y3, rfl, hpr, hb1⟩; obtain ⟨⟨a0, n0, c0, rfl⟩, ⟨a1, n1, c1, rfl⟩, ⟨a2, n2, c2, rfl⟩, ⟨a3, n3, c3, rfl⟩⟩ := hpr.forms)
    have hbw : Below w.heap.size w w1 := HB0.out.trans (hb1.mono HB0.out.size)
    refine ⟨Or.inr (by intros; exact ⟨⟨_, hbw⟩, rfl⟩), ?_⟩
    have hzz := hbw.size
    have hgb : w1.heap[w.heap.size]? = some (.cells #[.slice none 0 0, .slice none 0 0, .slice none 0 0, .slice none 0 0] 32 (0, 0)) := (hb1.block _ (by simp)).trans (heap_alloc_at _ _)
    have hwg : whole w1 w.heap.size 4 = true := whole_blk hgb
    have hgl := blk_lt hgb
    have HGB := hide hgb
    have HPR := hide hpr
    have HBW := hide hbw
    have hov : ∀ b0 m0 d0 b1 m1 d1 b2 m2 d2 b3 m3 d3, ones #[.slice b0 m0 d0, .slice b1 m1 d1, .slice b2 m2 d2, .slice b3 m3 d3] 4 = true := fun _ _ _ _ _ _ _ _ _ _ _ _  => rfl
    clear hpr hb1 hbw hgb HB0 HLA HLB hok'
    refine mixT_slots [16, 17, 18] (fuel := 2) rfl (by kernel_rfl) (by kernel_rfl) (fun d _ _ _ _ h => by cases d <;> exact h) ?_
    simp only [opersAt, List.getElem?_toArray, List.getElem?_cons_zero, List.getElem?_cons_succ]
    repeat (go_big_quiet_step (fail))
    refine wpQuiet_nil ?_
    refine mixT_one (k := 20) (by kernel_rfl) rfl ?_
    go_wp2
    refine ⟨Or.inl (by kernel_rfl), ?_⟩
    refine mixT_one (k := 21) (by kernel_rfl) rfl ?_
    go_wp2
    refine ⟨Or.inr (fun h => h), ?_⟩
    refine mixT_nil (by kernel_rfl) ?_
    go_upto_region 2 with fail
    have HV : Hid (Below w.heap.size w (w1.setRow w.heap.size #[.slice a0 n0 c0, .slice a1 n1 c1, .slice a2 n2 c2, .slice a3 n3 c3])) := HBW.out.trans (below_setRow' _ _ (Nat.le_refl _))
    have hvb : (w1.setRow w.heap.size #[.slice a0 n0 c0, .slice a1 n1 c1, .slice a2 n2 c2, .slice a3 n3 c3]).heap[w.heap.size]? = some (.cells #[.slice a0 n0 c0, .slice a1 n1 c1, .slice a2 n2 c2, .slice a3 n3 c3] 32 (0, 0)) := heap_setRow_at HGB.out
    have HPV : Hid (PrAt (w1.setRow w.heap.size #[.slice a0 n0 c0, .slice a1 n1 c1, .slice a2 n2 c2, .slice a3 n3 c3]) ok (.slice a0 n0 c0) (.slice a1 n1 c1) (.slice a2 n2 c2) (.slice a3 n3 c3) _) := HPR.out.mono (fun _ hb => setRow_other _ _ _ _ hb.2) (fun _ hb => hb.1)
    generalize (World.setRow w1 _ _) = V at *
    have hrv : rng V w.heap.size 0 4 = some #[.slice a0 n0 c0, .slice a1 n1 c1, .slice a2 n2 c2, .slice a3 n3 c3] := rng_whole hvb
    have hgv := blk_lt hvb
    clear hvb HBW HPR HGB hwg hgl hzz q10 q16 g21 g25 g26
    refine wp_region_mixT (V.heap.size) [4] (by kernel_rfl) ?_
    refine mixT_slots [0, 1, 2, 3, 5] (fuel := 3) rfl (by kernel_rfl) (by kernel_rfl) (fun d _ _ _ _ h => by cases d <;> exact h) ?_
    simp only [opersAt, List.getElem?_toArray, List.getElem?_cons_zero, List.getElem?_cons_succ]
    repeat (go_big_quiet_step (fail))
    refine wpQuiet_nil ?_
    refine mixT_reads [4] (fuel := 2) rfl (by kernel_rfl) (by decide) (by kernel_rfl) (fun d _ _ _ _ h => by cases d <;> exact h) (ext_drew _ _) ?_
    simp only [opersAt, List.getElem?_toArray, List.getElem?_cons_zero, List.getElem?_cons_succ]
    repeat (go_big_quiet_step (fail))
    refine wpQuiet_nil ?_
    refine mixT_one (k := 6) (by kernel_rfl) rfl ?_
    go_wp2_with (go_at_call 304; refine (settlePr_calls _ D r lv s _ wv iss (HD.out.below HV.out.drew) _ _ _ _  _ (by intro v hv; simp only [List.mem_cons, List.not_mem_nil, or_false] at hv; rcases hv with rfl | rfl | rfl | rfl <;> exact ⟨_, _, _, rfl⟩)).mono ?_; rintro e w3 ⟨rfl, hd3, ho3, -, hb3⟩)
    refine ⟨Or.inl (by kernel_rfl), ?_⟩
    refine mixT_one (k := 7) (by kernel_rfl) rfl ?_
    go_wp2
    refine ⟨Or.inr (fun h => h), ?_⟩
    refine mixT_nil (by kernel_rfl) ?_
    go_wp2
    go_ret
    exact HPost.ofPr HL.out hokD HV.out.drew hDl (HPV.out.below (Below.refl _ _).drew) (amend_low L.pr r.time r.list) hd3 ho3 hb3

end Go.Proofs.Qxb6500666aGreatDoor
