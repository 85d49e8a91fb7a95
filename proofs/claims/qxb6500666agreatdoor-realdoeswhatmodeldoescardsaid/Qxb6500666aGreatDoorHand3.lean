/- The handlers that only turn the layers beneath, walked. (Made by tools/mk_hand.py.) -/
import Derived.Test.Qxb6500666aGreatDoorHand1
namespace Go.Proofs.Qxb6500666aGreatDoor
open Go.RowKit

attribute [local go_sem] ext_const Ext.cell Ext.frozen Ext.rng Ext.whole
attribute [local go_sem ↓] exec_ldPrS exec_stPrS exec_ldKtS exec_stKtS exec_ldSmS exec_stSmS
attribute [local go_sem] run_ldPrS run_stPrS run_ldKtS run_stKtS run_ldSmS run_stSmS whole_alloc_lt whole_alloc_at whole_drew setRow_alloc_at setRow_alloc_lt rng_alloc_lt rng_alloc_at rng_drew rng_drewN rng_setCell_other whole_setCell_other

set_option maxRecDepth 100000 in
set_option maxHeartbeats 2000000 in
theorem hEnter_calls (w : World) (S D : Nat) (ok : Nat → Prop) (r : Req) (lv : Value) (s : Stat) (x : LV) (wv : Value) (iss : Int) (L : Low) (hd : DraftAt w D r lv s x wv iss) (hlow : LowAt w ok x L) (hl : L.Small) (hokD : ∀ b, ok b → b ≠ D) (hok : ∀ b, w.heap.size ≤ b → ok b) :
    Calls Tryz.prog 294 #[.pointer (some ⟨S, 0, none⟩), .pointer (some ⟨D, 0, none⟩)] w fun e w' => HPost w w' D ok r lv s wv iss e { L with sm := (enterR L.sm r.id r.ref r.value r.time).1 } (enterR L.sm r.id r.ref r.value r.time).2 := by
  have hDl := hd.lt
  obtain ⟨g21, g25, g26⟩ := hd.rng
  have hc := hd.cells.2
  have q3 := hc 3
  have q4 := hc 4
  have q12 := hc 12
  have q10 := hc 10
  simp only [draftCs, List.getElem?_toArray, List.getElem?_cons_succ, List.getElem?_cons_zero] at q3 q4 q12 q10
  have HD := hide hd
  have HL := hide hlow
  obtain ⟨p0, p1, p2, p3, k, s1, s2, s3⟩ := x
  simp only at g21 g25 g26
  clear hc hd hlow
  go_enter Tryz.func294, Tryz.ntmps294
  go_upto_region 1 with fail
  refine wp_region_mixT (w.heap.size) [4, 9, 14, 19, 24] (by kernel_rfl) ?_
  refine mixT_slots [0, 1, 2, 3, 5, 6, 7, 8, 10, 11, 12, 13, 15, 16, 17, 18, 20, 21, 22, 23] (fuel := 12) rfl (by kernel_rfl) (by kernel_rfl) (fun d _ _ _ _ h => by cases d <;> exact h) ?_
  simp only [opersAt, List.getElem?_toArray, List.getElem?_cons_zero, List.getElem?_cons_succ]
  repeat (go_big_quiet_step (fail))
  refine wpQuiet_nil ?_
  refine mixT_reads [4, 9, 14, 19, 24] (fuel := 7) rfl (by kernel_rfl) (by decide) (by kernel_rfl) (fun d _ _ _ _ h => by cases d <;> exact h) (ext_drew _ _) ?_
  simp only [opersAt, List.getElem?_toArray, List.getElem?_cons_zero, List.getElem?_cons_succ]
  repeat (go_big_quiet_step (fail))
  refine wpQuiet_nil ?_
  refine mixT_two (k := 25) (k' := 29) (by kernel_rfl) rfl rfl ?_ ?_
  · go_wp2_with (go_at_call 197; refine (enterR_calls _ ok _ _ _ L.sm r.id r.ref r.value r.time (HL.out.sm.below (Below.refl _ _).drew) hl.sm hok).mono ?_; rintro e w1 ⟨y0, y1, y2, rfl, hpr, hb1⟩; obtain ⟨⟨a0, n0, c0, rfl⟩, ⟨a1, n1, c1, rfl⟩, ⟨a2, n2, c2, rfl⟩⟩ := hpr.forms)
    have hbw : Below w.heap.size w w1 := (Below.refl _ _).drew.trans hb1
    refine ⟨Or.inr (by intros; exact ⟨⟨_, hbw⟩, rfl⟩), ?_⟩
    have hzz := hbw.size
    have HPR := hide hpr
    have HBW := hide hbw
    have hov : ∀ b0 m0 d0 b1 m1 d1 b2 m2 d2, ones #[.slice b0 m0 d0, .slice b1 m1 d1, .slice b2 m2 d2] 3 = true := fun _ _ _ _ _ _ _ _ _  => rfl
    clear hpr hb1 hbw
    refine mixT_slots [26, 27, 28] (fuel := 3) rfl (by kernel_rfl) (by kernel_rfl) (fun d _ _ _ _ h => by cases d <;> exact h) ?_
    simp only [opersAt, List.getElem?_toArray, List.getElem?_cons_zero, List.getElem?_cons_succ]
    repeat (go_big_quiet_step (fail))
    refine wpQuiet_nil ?_
    refine mixT_one (k := 29) (by kernel_rfl) rfl ?_
    go_wp2
    refine ⟨Or.inr (by intros; exact ⟨⟨_, HBW.out.alloc hzz _⟩, rfl⟩), ?_⟩
    refine mixT_one (k := 30) (by kernel_rfl) rfl ?_
    go_wp2
    refine ⟨Or.inl (by kernel_rfl), ?_⟩
    refine mixT_one (k := 31) (by kernel_rfl) rfl ?_
    go_wp2
    refine ⟨Or.inr (fun h => h), ?_⟩
    refine mixT_nil (by kernel_rfl) ?_
    go_upto_region 2 with fail
    have HV := hide (HBW.out.alloc hzz (.cells #[.slice a0 n0 c0, .slice a1 n1 c1, .slice a2 n2 c2] 40))
    have hvb : (w1.alloc (.cells #[.slice a0 n0 c0, .slice a1 n1 c1, .slice a2 n2 c2] 40)).heap[w1.heap.size]? = some (.cells #[.slice a0 n0 c0, .slice a1 n1 c1, .slice a2 n2 c2] 40 (0, 0)) := heap_alloc_at _ _
    have HPV := hide (HPR.out.below ((Below.refl _ _).alloc (Nat.le_refl _) (.cells #[.slice a0 n0 c0, .slice a1 n1 c1, .slice a2 n2 c2] 40)))
    generalize hg : w1.heap.size = g at *
    generalize (World.alloc w1 _) = V at *
    have hrv : rng V g 0 3 = some #[.slice a0 n0 c0, .slice a1 n1 c1, .slice a2 n2 c2] := rng_whole hvb
    have hgv := blk_lt hvb
    clear hvb HBW HPR hg hzz q3 q4 q12 q10 g21 g25 g26
    refine wp_region_mixT (V.heap.size) [4] (by kernel_rfl) ?_
    refine mixT_slots [0, 1, 2, 3, 5] (fuel := 3) rfl (by kernel_rfl) (by kernel_rfl) (fun d _ _ _ _ h => by cases d <;> exact h) ?_
    simp only [opersAt, List.getElem?_toArray, List.getElem?_cons_zero, List.getElem?_cons_succ]
    repeat (go_big_quiet_step (fail))
    refine wpQuiet_nil ?_
    refine mixT_reads [4] (fuel := 2) rfl (by kernel_rfl) (by decide) (by kernel_rfl) (fun d _ _ _ _ h => by cases d <;> exact h) (ext_drew _ _) ?_
    simp only [opersAt, List.getElem?_toArray, List.getElem?_cons_zero, List.getElem?_cons_succ]
    repeat (go_big_quiet_step (fail))
    refine wpQuiet_nil ?_
    refine mixT_one (k := 6) (by kernel_rfl) rfl ?_
    go_wp2_with (go_at_call 306; refine (settleSm_calls _ D r lv s _ wv iss (HD.out.below HV.out.drew) _ _ _  _ (by intro v hv; simp only [List.mem_cons, List.not_mem_nil, or_false] at hv; rcases hv with rfl | rfl | rfl <;> exact ⟨_, _, _, rfl⟩)).mono ?_; rintro e w3 ⟨rfl, hd3, ho3, -, hb3⟩)
    refine ⟨Or.inl (by kernel_rfl), ?_⟩
    refine mixT_one (k := 7) (by kernel_rfl) rfl ?_
    go_wp2
    refine ⟨Or.inr (fun h => h), ?_⟩
    refine mixT_nil (by kernel_rfl) ?_
    go_wp2
    go_ret
    exact HPost.ofSm HL.out hokD HV.out.drew hDl (HPV.out.below (Below.refl _ _).drew) (enter_low L.sm r.id r.ref r.value r.time) hd3 ho3 hb3
  · go_wp2
    have hb0 : Below w.heap.size w (w.drew.alloc (.cells #[.slice none 0 0, .slice none 0 0, .slice none 0 0] 40)) := (Below.refl _ _).drew.alloc (Nat.le_refl _) _
    refine ⟨Or.inr (by intros; exact ⟨⟨_, hb0⟩, rfl⟩), ?_⟩
    have HB0 := hide hb0
    clear hb0
    refine mixT_one (k := 25) (by kernel_rfl) rfl ?_
    have hok' : ∀ b, (w.drew.alloc (.cells #[.slice none 0 0, .slice none 0 0, .slice none 0 0] 40)).heap.size ≤ b → ok b ∧ b ≠ w.heap.size := fun b hb => by
      have h9 : (w.drew.alloc (.cells #[.slice none 0 0, .slice none 0 0, .slice none 0 0] 40)).heap.size = w.heap.size + 1 := by simp
      exact ⟨hok b (by omega), by omega⟩
    have HLA := hide (HL.out.lt.mono (ok' := fun b => (ok b ∧ b ≠ w.heap.size) ∧ b < w.heap.size) (fun _ _ => rfl) (fun b hb => ⟨⟨hb.1, by have := hb.2; omega⟩, hb.2⟩))
    have HLB : Hid (LowAt (w.drew.alloc (.cells #[.slice none 0 0, .slice none 0 0, .slice none 0 0] 40)) (fun b => ok b ∧ b ≠ w.heap.size) ⟨p0, p1, p2, p3, k, s1, s2, s3⟩ L) := HLA.out.mono (fun b hb => HB0.out.block b hb.2) (fun _ hb => hb.1)
    go_wp2_with (go_at_call 197; refine (enterR_calls _ (fun b => ok b ∧ b ≠ w.heap.size) _ _ _ L.sm r.id r.ref r.value r.time HLB.out.sm hl.sm hok').mono ?_; rintro e w1 ⟨y0, y1, y2, rfl, hpr, hb1⟩; obtain ⟨⟨a0, n0, c0, rfl⟩, ⟨a1, n1, c1, rfl⟩, ⟨a2, n2, c2, rfl⟩⟩ := hpr.forms)
    have hbw : Below w.heap.size w w1 := HB0.out.trans (hb1.mono HB0.out.size)
    refine ⟨Or.inr (by intros; exact ⟨⟨_, hbw⟩, rfl⟩), ?_⟩
    have hzz := hbw.size
    have hgb : w1.heap[w.heap.size]? = some (.cells #[.slice none 0 0, .slice none 0 0, .slice none 0 0] 40 (0, 0)) := (hb1.block _ (by simp)).trans (heap_alloc_at _ _)
    have hwg : whole w1 w.heap.size 3 = true := whole_blk hgb
    have hgl := blk_lt hgb
    have HGB := hide hgb
    have HPR := hide hpr
    have HBW := hide hbw
    have hov : ∀ b0 m0 d0 b1 m1 d1 b2 m2 d2, ones #[.slice b0 m0 d0, .slice b1 m1 d1, .slice b2 m2 d2] 3 = true := fun _ _ _ _ _ _ _ _ _  => rfl
    clear hpr hb1 hbw hgb HB0 HLA HLB hok'
    refine mixT_slots [26, 27, 28] (fuel := 2) rfl (by kernel_rfl) (by kernel_rfl) (fun d _ _ _ _ h => by cases d <;> exact h) ?_
    simp only [opersAt, List.getElem?_toArray, List.getElem?_cons_zero, List.getElem?_cons_succ]
    repeat (go_big_quiet_step (fail))
    refine wpQuiet_nil ?_
    refine mixT_one (k := 30) (by kernel_rfl) rfl ?_
    go_wp2
    refine ⟨Or.inl (by kernel_rfl), ?_⟩
    refine mixT_one (k := 31) (by kernel_rfl) rfl ?_
    go_wp2
    refine ⟨Or.inr (fun h => h), ?_⟩
    refine mixT_nil (by kernel_rfl) ?_
    go_upto_region 2 with fail
    have HV : Hid (Below w.heap.size w (w1.setRow w.heap.size #[.slice a0 n0 c0, .slice a1 n1 c1, .slice a2 n2 c2])) := HBW.out.trans (below_setRow' _ _ (Nat.le_refl _))
    have hvb : (w1.setRow w.heap.size #[.slice a0 n0 c0, .slice a1 n1 c1, .slice a2 n2 c2]).heap[w.heap.size]? = some (.cells #[.slice a0 n0 c0, .slice a1 n1 c1, .slice a2 n2 c2] 40 (0, 0)) := heap_setRow_at HGB.out
    have HPV : Hid (SmAt (w1.setRow w.heap.size #[.slice a0 n0 c0, .slice a1 n1 c1, .slice a2 n2 c2]) ok (.slice a0 n0 c0) (.slice a1 n1 c1) (.slice a2 n2 c2) _) := HPR.out.mono (fun _ hb => setRow_other _ _ _ _ hb.2) (fun _ hb => hb.1)
    generalize (World.setRow w1 _ _) = V at *
    have hrv : rng V w.heap.size 0 3 = some #[.slice a0 n0 c0, .slice a1 n1 c1, .slice a2 n2 c2] := rng_whole hvb
    have hgv := blk_lt hvb
    clear hvb HBW HPR HGB hwg hgl hzz q3 q4 q12 q10 g21 g25 g26
    refine wp_region_mixT (V.heap.size) [4] (by kernel_rfl) ?_
    refine mixT_slots [0, 1, 2, 3, 5] (fuel := 3) rfl (by kernel_rfl) (by kernel_rfl) (fun d _ _ _ _ h => by cases d <;> exact h) ?_
    simp only [opersAt, List.getElem?_toArray, List.getElem?_cons_zero, List.getElem?_cons_succ]
    repeat (go_big_quiet_step (fail))
    refine wpQuiet_nil ?_
    refine mixT_reads [4] (fuel := 2) rfl (by kernel_rfl) (by decide) (by kernel_rfl) (fun d _ _ _ _ h => by cases d <;> exact h) (ext_drew _ _) ?_
    simp only [opersAt, List.getElem?_toArray, List.getElem?_cons_zero, List.getElem?_cons_succ]
    repeat (go_big_quiet_step (fail))
    refine wpQuiet_nil ?_
    refine mixT_one (k := 6) (by kernel_rfl) rfl ?_
    go_wp2_with (go_at_call 306; refine (settleSm_calls _ D r lv s _ wv iss (HD.out.below HV.out.drew) _ _ _  _ (by intro v hv; simp only [List.mem_cons, List.not_mem_nil, or_false] at hv; rcases hv with rfl | rfl | rfl <;> exact ⟨_, _, _, rfl⟩)).mono ?_; rintro e w3 ⟨rfl, hd3, ho3, -, hb3⟩)
    refine ⟨Or.inl (by kernel_rfl), ?_⟩
    refine mixT_one (k := 7) (by kernel_rfl) rfl ?_
    go_wp2
    refine ⟨Or.inr (fun h => h), ?_⟩
    refine mixT_nil (by kernel_rfl) ?_
    go_wp2
    go_ret
    exact HPost.ofSm HL.out hokD HV.out.drew hDl (HPV.out.below (Below.refl _ _).drew) (enter_low L.sm r.id r.ref r.value r.time) hd3 ho3 hb3

set_option maxRecDepth 100000 in
set_option maxHeartbeats 2000000 in
theorem hCorr_calls (w : World) (S D : Nat) (ok : Nat → Prop) (r : Req) (lv : Value) (s : Stat) (x : LV) (wv : Value) (iss : Int) (L : Low) (hd : DraftAt w D r lv s x wv iss) (hlow : LowAt w ok x L) (hl : L.Small) (hokD : ∀ b, ok b → b ≠ D) (hok : ∀ b, w.heap.size ≤ b → ok b) :
    Calls Tryz.prog 295 #[.pointer (some ⟨S, 0, none⟩), .pointer (some ⟨D, 0, none⟩)] w fun e w' => HPost w w' D ok r lv s wv iss e { L with sm := (correctR L.sm r.id r.ref r.value).1 } (correctR L.sm r.id r.ref r.value).2 := by
  have hDl := hd.lt
  obtain ⟨g21, g25, g26⟩ := hd.rng
  have hc := hd.cells.2
  have q3 := hc 3
  have q4 := hc 4
  have q12 := hc 12
  simp only [draftCs, List.getElem?_toArray, List.getElem?_cons_succ, List.getElem?_cons_zero] at q3 q4 q12
  have HD := hide hd
  have HL := hide hlow
  obtain ⟨p0, p1, p2, p3, k, s1, s2, s3⟩ := x
  simp only at g21 g25 g26
  clear hc hd hlow
  go_enter Tryz.func295, Tryz.ntmps295
  go_upto_region 1 with fail
  refine wp_region_mixT (w.heap.size) [4, 9, 14, 19] (by kernel_rfl) ?_
  refine mixT_slots [0, 1, 2, 3, 5, 6, 7, 8, 10, 11, 12, 13, 15, 16, 17, 18] (fuel := 11) rfl (by kernel_rfl) (by kernel_rfl) (fun d _ _ _ _ h => by cases d <;> exact h) ?_
  simp only [opersAt, List.getElem?_toArray, List.getElem?_cons_zero, List.getElem?_cons_succ]
  repeat (go_big_quiet_step (fail))
  refine wpQuiet_nil ?_
  refine mixT_reads [4, 9, 14, 19] (fuel := 7) rfl (by kernel_rfl) (by decide) (by kernel_rfl) (fun d _ _ _ _ h => by cases d <;> exact h) (ext_drew _ _) ?_
  simp only [opersAt, List.getElem?_toArray, List.getElem?_cons_zero, List.getElem?_cons_succ]
  repeat (go_big_quiet_step (fail))
  refine wpQuiet_nil ?_
  refine mixT_two (k := 20) (k' := 24) (by kernel_rfl) rfl rfl ?_ ?_
  · go_wp2_with (go_at_call 198; refine (correctR_calls _ ok _ _ _ L.sm r.id r.ref r.value (HL.out.sm.below (Below.refl _ _).drew) hl.sm hok).mono ?_; rintro e w1 ⟨y0, y1, y2, rfl, hpr, hb1⟩; obtain ⟨⟨a0, n0, c0, rfl⟩, ⟨a1, n1, c1, rfl⟩, ⟨a2, n2, c2, rfl⟩⟩ := hpr.forms)
    have hbw : Below w.heap.size w w1 := (Below.refl _ _).drew.trans hb1
    refine ⟨Or.inr (by intros; exact ⟨⟨_, hbw⟩, rfl⟩), ?_⟩
    have hzz := hbw.size
    have HPR := hide hpr
    have HBW := hide hbw
    have hov : ∀ b0 m0 d0 b1 m1 d1 b2 m2 d2, ones #[.slice b0 m0 d0, .slice b1 m1 d1, .slice b2 m2 d2] 3 = true := fun _ _ _ _ _ _ _ _ _  => rfl
    clear hpr hb1 hbw
    refine mixT_slots [21, 22, 23] (fuel := 3) rfl (by kernel_rfl) (by kernel_rfl) (fun d _ _ _ _ h => by cases d <;> exact h) ?_
    simp only [opersAt, List.getElem?_toArray, List.getElem?_cons_zero, List.getElem?_cons_succ]
    repeat (go_big_quiet_step (fail))
    refine wpQuiet_nil ?_
    refine mixT_one (k := 24) (by kernel_rfl) rfl ?_
    go_wp2
    refine ⟨Or.inr (by intros; exact ⟨⟨_, HBW.out.alloc hzz _⟩, rfl⟩), ?_⟩
    refine mixT_one (k := 25) (by kernel_rfl) rfl ?_
    go_wp2
    refine ⟨Or.inl (by kernel_rfl), ?_⟩
    refine mixT_one (k := 26) (by kernel_rfl) rfl ?_
    go_wp2
    refine ⟨Or.inr (fun h => h), ?_⟩
    refine mixT_nil (by kernel_rfl) ?_
    go_upto_region 2 with fail
    have HV := hide (HBW.out.alloc hzz (.cells #[.slice a0 n0 c0, .slice a1 n1 c1, .slice a2 n2 c2] 40))
    have hvb : (w1.alloc (.cells #[.slice a0 n0 c0, .slice a1 n1 c1, .slice a2 n2 c2] 40)).heap[w1.heap.size]? = some (.cells #[.slice a0 n0 c0, .slice a1 n1 c1, .slice a2 n2 c2] 40 (0, 0)) := heap_alloc_at _ _
    have HPV := hide (HPR.out.below ((Below.refl _ _).alloc (Nat.le_refl _) (.cells #[.slice a0 n0 c0, .slice a1 n1 c1, .slice a2 n2 c2] 40)))
    generalize hg : w1.heap.size = g at *
    generalize (World.alloc w1 _) = V at *
    have hrv : rng V g 0 3 = some #[.slice a0 n0 c0, .slice a1 n1 c1, .slice a2 n2 c2] := rng_whole hvb
    have hgv := blk_lt hvb
    clear hvb HBW HPR hg hzz q3 q4 q12 g21 g25 g26
    refine wp_region_mixT (V.heap.size) [4] (by kernel_rfl) ?_
    refine mixT_slots [0, 1, 2, 3, 5] (fuel := 3) rfl (by kernel_rfl) (by kernel_rfl) (fun d _ _ _ _ h => by cases d <;> exact h) ?_
    simp only [opersAt, List.getElem?_toArray, List.getElem?_cons_zero, List.getElem?_cons_succ]
    repeat (go_big_quiet_step (fail))
    refine wpQuiet_nil ?_
    refine mixT_reads [4] (fuel := 2) rfl (by kernel_rfl) (by decide) (by kernel_rfl) (fun d _ _ _ _ h => by cases d <;> exact h) (ext_drew _ _) ?_
    simp only [opersAt, List.getElem?_toArray, List.getElem?_cons_zero, List.getElem?_cons_succ]
    repeat (go_big_quiet_step (fail))
    refine wpQuiet_nil ?_
    refine mixT_one (k := 6) (by kernel_rfl) rfl ?_
    go_wp2_with (go_at_call 306; refine (settleSm_calls _ D r lv s _ wv iss (HD.out.below HV.out.drew) _ _ _  _ (by intro v hv; simp only [List.mem_cons, List.not_mem_nil, or_false] at hv; rcases hv with rfl | rfl | rfl <;> exact ⟨_, _, _, rfl⟩)).mono ?_; rintro e w3 ⟨rfl, hd3, ho3, -, hb3⟩)
    refine ⟨Or.inl (by kernel_rfl), ?_⟩
    refine mixT_one (k := 7) (by kernel_rfl) rfl ?_
    go_wp2
    refine ⟨Or.inr (fun h => h), ?_⟩
    refine mixT_nil (by kernel_rfl) ?_
    go_wp2
    go_ret
    exact HPost.ofSm HL.out hokD HV.out.drew hDl (HPV.out.below (Below.refl _ _).drew) (corr_low L.sm r.id r.ref r.value) hd3 ho3 hb3
  · go_wp2
    have hb0 : Below w.heap.size w (w.drew.alloc (.cells #[.slice none 0 0, .slice none 0 0, .slice none 0 0] 40)) := (Below.refl _ _).drew.alloc (Nat.le_refl _) _
    refine ⟨Or.inr (by intros; exact ⟨⟨_, hb0⟩, rfl⟩), ?_⟩
    have HB0 := hide hb0
    clear hb0
    refine mixT_one (k := 20) (by kernel_rfl) rfl ?_
    have hok' : ∀ b, (w.drew.alloc (.cells #[.slice none 0 0, .slice none 0 0, .slice none 0 0] 40)).heap.size ≤ b → ok b ∧ b ≠ w.heap.size := fun b hb => by
      have h9 : (w.drew.alloc (.cells #[.slice none 0 0, .slice none 0 0, .slice none 0 0] 40)).heap.size = w.heap.size + 1 := by simp
      exact ⟨hok b (by omega), by omega⟩
    have HLA := hide (HL.out.lt.mono (ok' := fun b => (ok b ∧ b ≠ w.heap.size) ∧ b < w.heap.size) (fun _ _ => rfl) (fun b hb => ⟨⟨hb.1, by have := hb.2; omega⟩, hb.2⟩))
    have HLB : Hid (LowAt (w.drew.alloc (.cells #[.slice none 0 0, .slice none 0 0, .slice none 0 0] 40)) (fun b => ok b ∧ b ≠ w.heap.size) ⟨p0, p1, p2, p3, k, s1, s2, s3⟩ L) := HLA.out.mono (fun b hb => HB0.out.block b hb.2) (fun _ hb => hb.1)
    go_wp2_with (go_at_call 198; refine (correctR_calls _ (fun b => ok b ∧ b ≠ w.heap.size) _ _ _ L.sm r.id r.ref r.value HLB.out.sm hl.sm hok').mono ?_; rintro e w1 ⟨y0, y1, y2, rfl, hpr, hb1⟩; obtain ⟨⟨a0, n0, c0, rfl⟩, ⟨a1, n1, c1, rfl⟩, ⟨a2, n2, c2, rfl⟩⟩ := hpr.forms)
    have hbw : Below w.heap.size w w1 := HB0.out.trans (hb1.mono HB0.out.size)
    refine ⟨Or.inr (by intros; exact ⟨⟨_, hbw⟩, rfl⟩), ?_⟩
    have hzz := hbw.size
    have hgb : w1.heap[w.heap.size]? = some (.cells #[.slice none 0 0, .slice none 0 0, .slice none 0 0] 40 (0, 0)) := (hb1.block _ (by simp)).trans (heap_alloc_at _ _)
    have hwg : whole w1 w.heap.size 3 = true := whole_blk hgb
    have hgl := blk_lt hgb
    have HGB := hide hgb
    have HPR := hide hpr
    have HBW := hide hbw
    have hov : ∀ b0 m0 d0 b1 m1 d1 b2 m2 d2, ones #[.slice b0 m0 d0, .slice b1 m1 d1, .slice b2 m2 d2] 3 = true := fun _ _ _ _ _ _ _ _ _  => rfl
    clear hpr hb1 hbw hgb HB0 HLA HLB hok'
    refine mixT_slots [21, 22, 23] (fuel := 2) rfl (by kernel_rfl) (by kernel_rfl) (fun d _ _ _ _ h => by cases d <;> exact h) ?_
    simp only [opersAt, List.getElem?_toArray, List.getElem?_cons_zero, List.getElem?_cons_succ]
    repeat (go_big_quiet_step (fail))
    refine wpQuiet_nil ?_
    refine mixT_one (k := 25) (by kernel_rfl) rfl ?_
    go_wp2
    refine ⟨Or.inl (by kernel_rfl), ?_⟩
    refine mixT_one (k := 26) (by kernel_rfl) rfl ?_
    go_wp2
    refine ⟨Or.inr (fun h => h), ?_⟩
    refine mixT_nil (by kernel_rfl) ?_
    go_upto_region 2 with fail
    have HV : Hid (Below w.heap.size w (w1.setRow w.heap.size #[.slice a0 n0 c0, .slice a1 n1 c1, .slice a2 n2 c2])) := HBW.out.trans (below_setRow' _ _ (Nat.le_refl _))
    have hvb : (w1.setRow w.heap.size #[.slice a0 n0 c0, .slice a1 n1 c1, .slice a2 n2 c2]).heap[w.heap.size]? = some (.cells #[.slice a0 n0 c0, .slice a1 n1 c1, .slice a2 n2 c2] 40 (0, 0)) := heap_setRow_at HGB.out
    have HPV : Hid (SmAt (w1.setRow w.heap.size #[.slice a0 n0 c0, .slice a1 n1 c1, .slice a2 n2 c2]) ok (.slice a0 n0 c0) (.slice a1 n1 c1) (.slice a2 n2 c2) _) := HPR.out.mono (fun _ hb => setRow_other _ _ _ _ hb.2) (fun _ hb => hb.1)
    generalize (World.setRow w1 _ _) = V at *
    have hrv : rng V w.heap.size 0 3 = some #[.slice a0 n0 c0, .slice a1 n1 c1, .slice a2 n2 c2] := rng_whole hvb
    have hgv := blk_lt hvb
    clear hvb HBW HPR HGB hwg hgl hzz q3 q4 q12 g21 g25 g26
    refine wp_region_mixT (V.heap.size) [4] (by kernel_rfl) ?_
    refine mixT_slots [0, 1, 2, 3, 5] (fuel := 3) rfl (by kernel_rfl) (by kernel_rfl) (fun d _ _ _ _ h => by cases d <;> exact h) ?_
    simp only [opersAt, List.getElem?_toArray, List.getElem?_cons_zero, List.getElem?_cons_succ]
    repeat (go_big_quiet_step (fail))
    refine wpQuiet_nil ?_
    refine mixT_reads [4] (fuel := 2) rfl (by kernel_rfl) (by decide) (by kernel_rfl) (fun d _ _ _ _ h => by cases d <;> exact h) (ext_drew _ _) ?_
    simp only [opersAt, List.getElem?_toArray, List.getElem?_cons_zero, List.getElem?_cons_succ]
    repeat (go_big_quiet_step (fail))
    refine wpQuiet_nil ?_
    refine mixT_one (k := 6) (by kernel_rfl) rfl ?_
    go_wp2_with (go_at_call 306; refine (settleSm_calls _ D r lv s _ wv iss (HD.out.below HV.out.drew) _ _ _  _ (by intro v hv; simp only [List.mem_cons, List.not_mem_nil, or_false] at hv; rcases hv with rfl | rfl | rfl <;> exact ⟨_, _, _, rfl⟩)).mono ?_; rintro e w3 ⟨rfl, hd3, ho3, -, hb3⟩)
    refine ⟨Or.inl (by kernel_rfl), ?_⟩
    refine mixT_one (k := 7) (by kernel_rfl) rfl ?_
    go_wp2
    refine ⟨Or.inr (fun h => h), ?_⟩
    refine mixT_nil (by kernel_rfl) ?_
    go_wp2
    go_ret
    exact HPost.ofSm HL.out hokD HV.out.drew hDl (HPV.out.below (Below.refl _ _).drew) (corr_low L.sm r.id r.ref r.value) hd3 ho3 hb3

set_option maxRecDepth 100000 in
set_option maxHeartbeats 2000000 in
theorem hWith_calls (w : World) (S D : Nat) (ok : Nat → Prop) (r : Req) (lv : Value) (s : Stat) (x : LV) (wv : Value) (iss : Int) (L : Low) (hd : DraftAt w D r lv s x wv iss) (hlow : LowAt w ok x L) (hl : L.Small) (hokD : ∀ b, ok b → b ≠ D) (hok : ∀ b, w.heap.size ≤ b → ok b) :
    Calls Tryz.prog 296 #[.pointer (some ⟨S, 0, none⟩), .pointer (some ⟨D, 0, none⟩)] w fun e w' => HPost w w' D ok r lv s wv iss e { L with sm := (withdrawR L.sm r.id r.ref).1 } (withdrawR L.sm r.id r.ref).2 := by
  have hDl := hd.lt
  obtain ⟨g21, g25, g26⟩ := hd.rng
  have hc := hd.cells.2
  have q3 := hc 3
  have q4 := hc 4
  simp only [draftCs, List.getElem?_toArray, List.getElem?_cons_succ, List.getElem?_cons_zero] at q3 q4
  have HD := hide hd
  have HL := hide hlow
  obtain ⟨p0, p1, p2, p3, k, s1, s2, s3⟩ := x
  simp only at g21 g25 g26
  clear hc hd hlow
  go_enter Tryz.func296, Tryz.ntmps296
  go_upto_region 1 with fail
  refine wp_region_mixT (w.heap.size) [4, 9, 14] (by kernel_rfl) ?_
  refine mixT_slots [0, 1, 2, 3, 5, 6, 7, 8, 10, 11, 12, 13] (fuel := 10) rfl (by kernel_rfl) (by kernel_rfl) (fun d _ _ _ _ h => by cases d <;> exact h) ?_
  simp only [opersAt, List.getElem?_toArray, List.getElem?_cons_zero, List.getElem?_cons_succ]
  repeat (go_big_quiet_step (fail))
  refine wpQuiet_nil ?_
  refine mixT_reads [4, 9, 14] (fuel := 7) rfl (by kernel_rfl) (by decide) (by kernel_rfl) (fun d _ _ _ _ h => by cases d <;> exact h) (ext_drew _ _) ?_
  simp only [opersAt, List.getElem?_toArray, List.getElem?_cons_zero, List.getElem?_cons_succ]
  repeat (go_big_quiet_step (fail))
  refine wpQuiet_nil ?_
  refine mixT_two (k := 15) (k' := 19) (by kernel_rfl) rfl rfl ?_ ?_
  · go_wp2_with (go_at_call 199; refine (withdrawR_calls _ ok _ _ _ L.sm r.id r.ref (HL.out.sm.below (Below.refl _ _).drew) hl.sm hok).mono ?_; rintro e w1 ⟨y0, y1, y2, rfl, hpr, hb1⟩; obtain ⟨⟨a0, n0, c0, rfl⟩, ⟨a1, n1, c1, rfl⟩, ⟨a2, n2, c2, rfl⟩⟩ := hpr.forms)
    have hbw : Below w.heap.size w w1 := (Below.refl _ _).drew.trans hb1
    refine ⟨Or.inr (by intros; exact ⟨⟨_, hbw⟩, rfl⟩), ?_⟩
    have hzz := hbw.size
    have HPR := hide hpr
    have HBW := hide hbw
    have hov : ∀ b0 m0 d0 b1 m1 d1 b2 m2 d2, ones #[.slice b0 m0 d0, .slice b1 m1 d1, .slice b2 m2 d2] 3 = true := fun _ _ _ _ _ _ _ _ _  => rfl
    clear hpr hb1 hbw
    refine mixT_slots [16, 17, 18] (fuel := 3) rfl (by kernel_rfl) (by kernel_rfl) (fun d _ _ _ _ h => by cases d <;> exact h) ?_
    simp only [opersAt, List.getElem?_toArray, List.getElem?_cons_zero, List.getElem?_cons_succ]
    repeat (go_big_quiet_step (fail))
    refine wpQuiet_nil ?_
    refine mixT_one (k := 19) (by kernel_rfl) rfl ?_
    go_wp2
    refine ⟨Or.inr (by intros; exact ⟨⟨_, HBW.out.alloc hzz _⟩, rfl⟩), ?_⟩
    refine mixT_one (k := 20) (by kernel_rfl) rfl ?_
    go_wp2
    refine ⟨Or.inl (by kernel_rfl), ?_⟩
    refine mixT_one (k := 21) (by kernel_rfl) rfl ?_
    go_wp2
    refine ⟨Or.inr (fun h => h), ?_⟩
    refine mixT_nil (by kernel_rfl) ?_
    go_upto_region 2 with fail
    have HV := hide (HBW.out.alloc hzz (.cells #[.slice a0 n0 c0, .slice a1 n1 c1, .slice a2 n2 c2] 40))
    have hvb : (w1.alloc (.cells #[.slice a0 n0 c0, .slice a1 n1 c1, .slice a2 n2 c2] 40)).heap[w1.heap.size]? = some (.cells #[.slice a0 n0 c0, .slice a1 n1 c1, .slice a2 n2 c2] 40 (0, 0)) := heap_alloc_at _ _
    have HPV := hide (HPR.out.below ((Below.refl _ _).alloc (Nat.le_refl _) (.cells #[.slice a0 n0 c0, .slice a1 n1 c1, .slice a2 n2 c2] 40)))
    generalize hg : w1.heap.size = g at *
    generalize (World.alloc w1 _) = V at *
    have hrv : rng V g 0 3 = some #[.slice a0 n0 c0, .slice a1 n1 c1, .slice a2 n2 c2] := rng_whole hvb
    have hgv := blk_lt hvb
    clear hvb HBW HPR hg hzz q3 q4 g21 g25 g26
    refine wp_region_mixT (V.heap.size) [4] (by kernel_rfl) ?_
    refine mixT_slots [0, 1, 2, 3, 5] (fuel := 3) rfl (by kernel_rfl) (by kernel_rfl) (fun d _ _ _ _ h => by cases d <;> exact h) ?_
    simp only [opersAt, List.getElem?_toArray, List.getElem?_cons_zero, List.getElem?_cons_succ]
    repeat (go_big_quiet_step (fail))
    refine wpQuiet_nil ?_
    refine mixT_reads [4] (fuel := 2) rfl (by kernel_rfl) (by decide) (by kernel_rfl) (fun d _ _ _ _ h => by cases d <;> exact h) (ext_drew _ _) ?_
    simp only [opersAt, List.getElem?_toArray, List.getElem?_cons_zero, List.getElem?_cons_succ]
    repeat (go_big_quiet_step (fail))
    refine wpQuiet_nil ?_
    refine mixT_one (k := 6) (by kernel_rfl) rfl ?_
    go_wp2_with (go_at_call 306; refine (settleSm_calls _ D r lv s _ wv iss (HD.out.below HV.out.drew) _ _ _  _ (by intro v hv; simp only [List.mem_cons, List.not_mem_nil, or_false] at hv; rcases hv with rfl | rfl | rfl <;> exact ⟨_, _, _, rfl⟩)).mono ?_; rintro e w3 ⟨rfl, hd3, ho3, -, hb3⟩)
    refine ⟨Or.inl (by kernel_rfl), ?_⟩
    refine mixT_one (k := 7) (by kernel_rfl) rfl ?_
    go_wp2
    refine ⟨Or.inr (fun h => h), ?_⟩
    refine mixT_nil (by kernel_rfl) ?_
    go_wp2
    go_ret
    exact HPost.ofSm HL.out hokD HV.out.drew hDl (HPV.out.below (Below.refl _ _).drew) (wd_low L.sm r.id r.ref) hd3 ho3 hb3
  · go_wp2
    have hb0 : Below w.heap.size w (w.drew.alloc (.cells #[.slice none 0 0, .slice none 0 0, .slice none 0 0] 40)) := (Below.refl _ _).drew.alloc (Nat.le_refl _) _
    refine ⟨Or.inr (by intros; exact ⟨⟨_, hb0⟩, rfl⟩), ?_⟩
    have HB0 := hide hb0
    clear hb0
    refine mixT_one (k := 15) (by kernel_rfl) rfl ?_
    have hok' : ∀ b, (w.drew.alloc (.cells #[.slice none 0 0, .slice none 0 0, .slice none 0 0] 40)).heap.size ≤ b → ok b ∧ b ≠ w.heap.size := fun b hb => by
      have h9 : (w.drew.alloc (.cells #[.slice none 0 0, .slice none 0 0, .slice none 0 0] 40)).heap.size = w.heap.size + 1 := by simp
      exact ⟨hok b (by omega), by omega⟩
    have HLA := hide (HL.out.lt.mono (ok' := fun b => (ok b ∧ b ≠ w.heap.size) ∧ b < w.heap.size) (fun _ _ => rfl) (fun b hb => ⟨⟨hb.1, by have := hb.2; omega⟩, hb.2⟩))
    have HLB : Hid (LowAt (w.drew.alloc (.cells #[.slice none 0 0, .slice none 0 0, .slice none 0 0] 40)) (fun b => ok b ∧ b ≠ w.heap.size) ⟨p0, p1, p2, p3, k, s1, s2, s3⟩ L) := HLA.out.mono (fun b hb => HB0.out.block b hb.2) (fun _ hb => hb.1)
    go_wp2_with (go_at_call 199; refine (withdrawR_calls _ (fun b => ok b ∧ b ≠ w.heap.size) _ _ _ L.sm r.id r.ref HLB.out.sm hl.sm hok').mono ?_; rintro e w1 ⟨y0, y1, y2, rfl, hpr, hb1⟩; obtain ⟨⟨a0, n0, c0, rfl⟩, ⟨a1, n1, c1, rfl⟩, ⟨a2, n2, c2, rfl⟩⟩ := hpr.forms)
    have hbw : Below w.heap.size w w1 := HB0.out.trans (hb1.mono HB0.out.size)
    refine ⟨Or.inr (by intros; exact ⟨⟨_, hbw⟩, rfl⟩), ?_⟩
    have hzz := hbw.size
    have hgb : w1.heap[w.heap.size]? = some (.cells #[.slice none 0 0, .slice none 0 0, .slice none 0 0] 40 (0, 0)) := (hb1.block _ (by simp)).trans (heap_alloc_at _ _)
    have hwg : whole w1 w.heap.size 3 = true := whole_blk hgb
    have hgl := blk_lt hgb
    have HGB := hide hgb
    have HPR := hide hpr
    have HBW := hide hbw
    have hov : ∀ b0 m0 d0 b1 m1 d1 b2 m2 d2, ones #[.slice b0 m0 d0, .slice b1 m1 d1, .slice b2 m2 d2] 3 = true := fun _ _ _ _ _ _ _ _ _  => rfl
    clear hpr hb1 hbw hgb HB0 HLA HLB hok'
    refine mixT_slots [16, 17, 18] (fuel := 2) rfl (by kernel_rfl) (by kernel_rfl) (fun d _ _ _ _ h => by cases d <;> exact h) ?_
    simp only [opersAt, List.getElem?_toArray, List.getElem?_cons_zero, List.getElem?_cons_succ]
    repeat (go_big_quiet_step (fail))
    refine wpQuiet_nil ?_
    refine mixT_one (k := 20) (by kernel_rfl) rfl ?_
    go_wp2
    refine ⟨Or.inl (by kernel_rfl), ?_⟩
    refine mixT_one (k := 21) (by kernel_rfl) rfl ?_
    go_wp2
    refine ⟨Or.inr (fun h => h), ?_⟩
    refine mixT_nil (by kernel_rfl) ?_
    go_upto_region 2 with fail
    have HV : Hid (Below w.heap.size w (w1.setRow w.heap.size #[.slice a0 n0 c0, .slice a1 n1 c1, .slice a2 n2 c2])) := HBW.out.trans (below_setRow' _ _ (Nat.le_refl _))
    have hvb : (w1.setRow w.heap.size #[.slice a0 n0 c0, .slice a1 n1 c1, .slice a2 n2 c2]).heap[w.heap.size]? = some (.cells #[.slice a0 n0 c0, .slice a1 n1 c1, .slice a2 n2 c2] 40 (0, 0)) := heap_setRow_at HGB.out
    have HPV : Hid (SmAt (w1.setRow w.heap.size #[.slice a0 n0 c0, .slice a1 n1 c1, .slice a2 n2 c2]) ok (.slice a0 n0 c0) (.slice a1 n1 c1) (.slice a2 n2 c2) _) := HPR.out.mono (fun _ hb => setRow_other _ _ _ _ hb.2) (fun _ hb => hb.1)
    generalize (World.setRow w1 _ _) = V at *
    have hrv : rng V w.heap.size 0 3 = some #[.slice a0 n0 c0, .slice a1 n1 c1, .slice a2 n2 c2] := rng_whole hvb
    have hgv := blk_lt hvb
    clear hvb HBW HPR HGB hwg hgl hzz q3 q4 g21 g25 g26
    refine wp_region_mixT (V.heap.size) [4] (by kernel_rfl) ?_
    refine mixT_slots [0, 1, 2, 3, 5] (fuel := 3) rfl (by kernel_rfl) (by kernel_rfl) (fun d _ _ _ _ h => by cases d <;> exact h) ?_
    simp only [opersAt, List.getElem?_toArray, List.getElem?_cons_zero, List.getElem?_cons_succ]
    repeat (go_big_quiet_step (fail))
    refine wpQuiet_nil ?_
    refine mixT_reads [4] (fuel := 2) rfl (by kernel_rfl) (by decide) (by kernel_rfl) (fun d _ _ _ _ h => by cases d <;> exact h) (ext_drew _ _) ?_
    simp only [opersAt, List.getElem?_toArray, List.getElem?_cons_zero, List.getElem?_cons_succ]
    repeat (go_big_quiet_step (fail))
    refine wpQuiet_nil ?_
    refine mixT_one (k := 6) (by kernel_rfl) rfl ?_
    go_wp2_with (go_at_call 306; refine (settleSm_calls _ D r lv s _ wv iss (HD.out.below HV.out.drew) _ _ _  _ (by intro v hv; simp only [List.mem_cons, List.not_mem_nil, or_false] at hv; rcases hv with rfl | rfl | rfl <;> exact ⟨_, _, _, rfl⟩)).mono ?_; rintro e w3 ⟨rfl, hd3, ho3, -, hb3⟩)
    refine ⟨Or.inl (by kernel_rfl), ?_⟩
    refine mixT_one (k := 7) (by kernel_rfl) rfl ?_
    go_wp2
    refine ⟨Or.inr (fun h => h), ?_⟩
    refine mixT_nil (by kernel_rfl) ?_
    go_wp2
    go_ret
    exact HPost.ofSm HL.out hokD HV.out.drew hDl (HPV.out.below (Below.refl _ _).drew) (wd_low L.sm r.id r.ref) hd3 ho3 hb3

set_option maxRecDepth 100000 in
set_option maxHeartbeats 2000000 in
theorem hRaise_calls (w : World) (S D : Nat) (ok : Nat → Prop) (r : Req) (lv : Value) (s : Stat) (x : LV) (wv : Value) (iss : Int) (L : Low) (hd : DraftAt w D r lv s x wv iss) (hlow : LowAt w ok x L) (hl : L.Small) (hokD : ∀ b, ok b → b ≠ D) (hok : ∀ b, w.heap.size ≤ b → ok b) :
    Calls Tryz.prog 297 #[.pointer (some ⟨S, 0, none⟩), .pointer (some ⟨D, 0, none⟩)] w fun e w' => HPost w w' D ok r lv s wv iss e { L with sm := (raiseQ L.sm r.id r.ref).1 } (raiseQ L.sm r.id r.ref).2 := by
  have hDl := hd.lt
  obtain ⟨g21, g25, g26⟩ := hd.rng
  have hc := hd.cells.2
  have q3 := hc 3
  have q4 := hc 4
  simp only [draftCs, List.getElem?_toArray, List.getElem?_cons_succ, List.getElem?_cons_zero] at q3 q4
  have HD := hide hd
  have HL := hide hlow
  obtain ⟨p0, p1, p2, p3, k, s1, s2, s3⟩ := x
  simp only at g21 g25 g26
  clear hc hd hlow
  go_enter Tryz.func297, Tryz.ntmps297
  go_upto_region 1 with fail
  refine wp_region_mixT (w.heap.size) [4, 9, 14] (by kernel_rfl) ?_
  refine mixT_slots [0, 1, 2, 3, 5, 6, 7, 8, 10, 11, 12, 13] (fuel := 10) rfl (by kernel_rfl) (by kernel_rfl) (fun d _ _ _ _ h => by cases d <;> exact h) ?_
  simp only [opersAt, List.getElem?_toArray, List.getElem?_cons_zero, List.getElem?_cons_succ]
  repeat (go_big_quiet_step (fail))
  refine wpQuiet_nil ?_
  refine mixT_reads [4, 9, 14] (fuel := 7) rfl (by kernel_rfl) (by decide) (by kernel_rfl) (fun d _ _ _ _ h => by cases d <;> exact h) (ext_drew _ _) ?_
  simp only [opersAt, List.getElem?_toArray, List.getElem?_cons_zero, List.getElem?_cons_succ]
  repeat (go_big_quiet_step (fail))
  refine wpQuiet_nil ?_
  refine mixT_two (k := 15) (k' := 19) (by kernel_rfl) rfl rfl ?_ ?_
  · go_wp2_with (go_at_call 200; refine (raiseQ_calls _ ok _ _ _ L.sm r.id r.ref (HL.out.sm.below (Below.refl _ _).drew) hl.sm hok).mono ?_; rintro e w1 ⟨y0, y1, y2, rfl, hpr, hb1⟩; obtain ⟨⟨a0, n0, c0, rfl⟩, ⟨a1, n1, c1, rfl⟩, ⟨a2, n2, c2, rfl⟩⟩ := hpr.forms)
    have hbw : Below w.heap.size w w1 := (Below.refl _ _).drew.trans hb1
    refine ⟨Or.inr (by intros; exact ⟨⟨_, hbw⟩, rfl⟩), ?_⟩
    have hzz := hbw.size
    have HPR := hide hpr
    have HBW := hide hbw
    have hov : ∀ b0 m0 d0 b1 m1 d1 b2 m2 d2, ones #[.slice b0 m0 d0, .slice b1 m1 d1, .slice b2 m2 d2] 3 = true := fun _ _ _ _ _ _ _ _ _  => rfl
    clear hpr hb1 hbw
    refine mixT_slots [16, 17, 18] (fuel := 3) rfl (by kernel_rfl) (by kernel_rfl) (fun d _ _ _ _ h => by cases d <;> exact h) ?_
    simp only [opersAt, List.getElem?_toArray, List.getElem?_cons_zero, List.getElem?_cons_succ]
    repeat (go_big_quiet_step (fail))
    refine wpQuiet_nil ?_
    refine mixT_one (k := 19) (by kernel_rfl) rfl ?_
    go_wp2
    refine ⟨Or.inr (by intros; exact ⟨⟨_, HBW.out.alloc hzz _⟩, rfl⟩), ?_⟩
    refine mixT_one (k := 20) (by kernel_rfl) rfl ?_
    go_wp2
    refine ⟨Or.inl (by kernel_rfl), ?_⟩
    refine mixT_one (k := 21) (by kernel_rfl) rfl ?_
    go_wp2
    refine ⟨Or.inr (fun h => h), ?_⟩
    refine mixT_nil (by kernel_rfl) ?_
    go_upto_region 2 with fail
    have HV := hide (HBW.out.alloc hzz (.cells #[.slice a0 n0 c0, .slice a1 n1 c1, .slice a2 n2 c2] 40))
    have hvb : (w1.alloc (.cells #[.slice a0 n0 c0, .slice a1 n1 c1, .slice a2 n2 c2] 40)).heap[w1.heap.size]? = some (.cells #[.slice a0 n0 c0, .slice a1 n1 c1, .slice a2 n2 c2] 40 (0, 0)) := heap_alloc_at _ _
    have HPV := hide (HPR.out.below ((Below.refl _ _).alloc (Nat.le_refl _) (.cells #[.slice a0 n0 c0, .slice a1 n1 c1, .slice a2 n2 c2] 40)))
    generalize hg : w1.heap.size = g at *
    generalize (World.alloc w1 _) = V at *
    have hrv : rng V g 0 3 = some #[.slice a0 n0 c0, .slice a1 n1 c1, .slice a2 n2 c2] := rng_whole hvb
    have hgv := blk_lt hvb
    clear hvb HBW HPR hg hzz q3 q4 g21 g25 g26
    refine wp_region_mixT (V.heap.size) [4] (by kernel_rfl) ?_
    refine mixT_slots [0, 1, 2, 3, 5] (fuel := 3) rfl (by kernel_rfl) (by kernel_rfl) (fun d _ _ _ _ h => by cases d <;> exact h) ?_
    simp only [opersAt, List.getElem?_toArray, List.getElem?_cons_zero, List.getElem?_cons_succ]
    repeat (go_big_quiet_step (fail))
    refine wpQuiet_nil ?_
    refine mixT_reads [4] (fuel := 2) rfl (by kernel_rfl) (by decide) (by kernel_rfl) (fun d _ _ _ _ h => by cases d <;> exact h) (ext_drew _ _) ?_
    simp only [opersAt, List.getElem?_toArray, List.getElem?_cons_zero, List.getElem?_cons_succ]
    repeat (go_big_quiet_step (fail))
    refine wpQuiet_nil ?_
    refine mixT_one (k := 6) (by kernel_rfl) rfl ?_
    go_wp2_with (go_at_call 306; refine (settleSm_calls _ D r lv s _ wv iss (HD.out.below HV.out.drew) _ _ _  _ (by intro v hv; simp only [List.mem_cons, List.not_mem_nil, or_false] at hv; rcases hv with rfl | rfl | rfl <;> exact ⟨_, _, _, rfl⟩)).mono ?_; rintro e w3 ⟨rfl, hd3, ho3, -, hb3⟩)
    refine ⟨Or.inl (by kernel_rfl), ?_⟩
    refine mixT_one (k := 7) (by kernel_rfl) rfl ?_
    go_wp2
    refine ⟨Or.inr (fun h => h), ?_⟩
    refine mixT_nil (by kernel_rfl) ?_
    go_wp2
    go_ret
    exact HPost.ofSm HL.out hokD HV.out.drew hDl (HPV.out.below (Below.refl _ _).drew) (raise_low L.sm r.id r.ref) hd3 ho3 hb3
  · go_wp2
    have hb0 : Below w.heap.size w (w.drew.alloc (.cells #[.slice none 0 0, .slice none 0 0, .slice none 0 0] 40)) := (Below.refl _ _).drew.alloc (Nat.le_refl _) _
    refine ⟨Or.inr (by intros; exact ⟨⟨_, hb0⟩, rfl⟩), ?_⟩
    have HB0 := hide hb0
    clear hb0
    refine mixT_one (k := 15) (by kernel_rfl) rfl ?_
    have hok' : ∀ b, (w.drew.alloc (.cells #[.slice none 0 0, .slice none 0 0, .slice none 0 0] 40)).heap.size ≤ b → ok b ∧ b ≠ w.heap.size := fun b hb => by
      have h9 : (w.drew.alloc (.cells #[.slice none 0 0, .slice none 0 0, .slice none 0 0] 40)).heap.size = w.heap.size + 1 := by simp
      exact ⟨hok b (by omega), by omega⟩
    have HLA := hide (HL.out.lt.mono (ok' := fun b => (ok b ∧ b ≠ w.heap.size) ∧ b < w.heap.size) (fun _ _ => rfl) (fun b hb => ⟨⟨hb.1, by have := hb.2; omega⟩, hb.2⟩))
    have HLB : Hid (LowAt (w.drew.alloc (.cells #[.slice none 0 0, .slice none 0 0, .slice none 0 0] 40)) (fun b => ok b ∧ b ≠ w.heap.size) ⟨p0, p1, p2, p3, k, s1, s2, s3⟩ L) := HLA.out.mono (fun b hb => HB0.out.block b hb.2) (fun _ hb => hb.1)
    go_wp2_with (go_at_call 200; refine (raiseQ_calls _ (fun b => ok b ∧ b ≠ w.heap.size) _ _ _ L.sm r.id r.ref HLB.out.sm hl.sm hok').mono ?_; rintro e w1 ⟨y0, y1, y2, rfl, hpr, hb1⟩; obtain ⟨⟨a0, n0, c0, rfl⟩, ⟨a1, n1, c1, rfl⟩, ⟨a2, n2, c2, rfl⟩⟩ := hpr.forms)
    have hbw : Below w.heap.size w w1 := HB0.out.trans (hb1.mono HB0.out.size)
    refine ⟨Or.inr (by intros; exact ⟨⟨_, hbw⟩, rfl⟩), ?_⟩
    have hzz := hbw.size
    have hgb : w1.heap[w.heap.size]? = some (.cells #[.slice none 0 0, .slice none 0 0, .slice none 0 0] 40 (0, 0)) := (hb1.block _ (by simp)).trans (heap_alloc_at _ _)
    have hwg : whole w1 w.heap.size 3 = true := whole_blk hgb
    have hgl := blk_lt hgb
    have HGB := hide hgb
    have HPR := hide hpr
    have HBW := hide hbw
    have hov : ∀ b0 m0 d0 b1 m1 d1 b2 m2 d2, ones #[.slice b0 m0 d0, .slice b1 m1 d1, .slice b2 m2 d2] 3 = true := fun _ _ _ _ _ _ _ _ _  => rfl
    clear hpr hb1 hbw hgb HB0 HLA HLB hok'
    refine mixT_slots [16, 17, 18] (fuel := 2) rfl (by kernel_rfl) (by kernel_rfl) (fun d _ _ _ _ h => by cases d <;> exact h) ?_
    simp only [opersAt, List.getElem?_toArray, List.getElem?_cons_zero, List.getElem?_cons_succ]
    repeat (go_big_quiet_step (fail))
    refine wpQuiet_nil ?_
    refine mixT_one (k := 20) (by kernel_rfl) rfl ?_
    go_wp2
    refine ⟨Or.inl (by kernel_rfl), ?_⟩
    refine mixT_one (k := 21) (by kernel_rfl) rfl ?_
    go_wp2
    refine ⟨Or.inr (fun h => h), ?_⟩
    refine mixT_nil (by kernel_rfl) ?_
    go_upto_region 2 with fail
    have HV : Hid (Below w.heap.size w (w1.setRow w.heap.size #[.slice a0 n0 c0, .slice a1 n1 c1, .slice a2 n2 c2])) := HBW.out.trans (below_setRow' _ _ (Nat.le_refl _))
    have hvb : (w1.setRow w.heap.size #[.slice a0 n0 c0, .slice a1 n1 c1, .slice a2 n2 c2]).heap[w.heap.size]? = some (.cells #[.slice a0 n0 c0, .slice a1 n1 c1, .slice a2 n2 c2] 40 (0, 0)) := heap_setRow_at HGB.out
    have HPV : Hid (SmAt (w1.setRow w.heap.size #[.slice a0 n0 c0, .slice a1 n1 c1, .slice a2 n2 c2]) ok (.slice a0 n0 c0) (.slice a1 n1 c1) (.slice a2 n2 c2) _) := HPR.out.mono (fun _ hb => setRow_other _ _ _ _ hb.2) (fun _ hb => hb.1)
    generalize (World.setRow w1 _ _) = V at *
    have hrv : rng V w.heap.size 0 3 = some #[.slice a0 n0 c0, .slice a1 n1 c1, .slice a2 n2 c2] := rng_whole hvb
    have hgv := blk_lt hvb
    clear hvb HBW HPR HGB hwg hgl hzz q3 q4 g21 g25 g26
    refine wp_region_mixT (V.heap.size) [4] (by kernel_rfl) ?_
    refine mixT_slots [0, 1, 2, 3, 5] (fuel := 3) rfl (by kernel_rfl) (by kernel_rfl) (fun d _ _ _ _ h => by cases d <;> exact h) ?_
    simp only [opersAt, List.getElem?_toArray, List.getElem?_cons_zero, List.getElem?_cons_succ]
    repeat (go_big_quiet_step (fail))
    refine wpQuiet_nil ?_
    refine mixT_reads [4] (fuel := 2) rfl (by kernel_rfl) (by decide) (by kernel_rfl) (fun d _ _ _ _ h => by cases d <;> exact h) (ext_drew _ _) ?_
    simp only [opersAt, List.getElem?_toArray, List.getElem?_cons_zero, List.getElem?_cons_succ]
    repeat (go_big_quiet_step (fail))
    refine wpQuiet_nil ?_
    refine mixT_one (k := 6) (by kernel_rfl) rfl ?_
    go_wp2_with (go_at_call 306; refine (settleSm_calls _ D r lv s _ wv iss (HD.out.below HV.out.drew) _ _ _  _ (by intro v hv; simp only [List.mem_cons, List.not_mem_nil, or_false] at hv; rcases hv with rfl | rfl | rfl <;> exact ⟨_, _, _, rfl⟩)).mono ?_; rintro e w3 ⟨rfl, hd3, ho3, -, hb3⟩)
    refine ⟨Or.inl (by kernel_rfl), ?_⟩
    refine mixT_one (k := 7) (by kernel_rfl) rfl ?_
    go_wp2
    refine ⟨Or.inr (fun h => h), ?_⟩
    refine mixT_nil (by kernel_rfl) ?_
    go_wp2
    go_ret
    exact HPost.ofSm HL.out hokD HV.out.drew hDl (HPV.out.below (Below.refl _ _).drew) (raise_low L.sm r.id r.ref) hd3 ho3 hb3

set_option maxRecDepth 100000 in
set_option maxHeartbeats 2000000 in
theorem hAns_calls (w : World) (S D : Nat) (ok : Nat → Prop) (r : Req) (lv : Value) (s : Stat) (x : LV) (wv : Value) (iss : Int) (L : Low) (hd : DraftAt w D r lv s x wv iss) (hlow : LowAt w ok x L) (hl : L.Small) (hokD : ∀ b, ok b → b ≠ D) (hok : ∀ b, w.heap.size ≤ b → ok b) :
    Calls Tryz.prog 298 #[.pointer (some ⟨S, 0, none⟩), .pointer (some ⟨D, 0, none⟩)] w fun e w' => HPost w w' D ok r lv s wv iss e { L with sm := (moveQ L.sm r.id 1 2).1 } (moveQ L.sm r.id 1 2).2 := by
  have hDl := hd.lt
  obtain ⟨g21, g25, g26⟩ := hd.rng
  have hc := hd.cells.2
  have q3 := hc 3
  simp only [draftCs, List.getElem?_toArray, List.getElem?_cons_succ, List.getElem?_cons_zero] at q3
  have HD := hide hd
  have HL := hide hlow
  obtain ⟨p0, p1, p2, p3, k, s1, s2, s3⟩ := x
  simp only at g21 g25 g26
  clear hc hd hlow
  go_enter Tryz.func298, Tryz.ntmps298
  go_upto_region 1 with fail
  refine wp_region_mixT (w.heap.size) [4, 9] (by kernel_rfl) ?_
  refine mixT_slots [0, 1, 2, 3, 5, 6, 7, 8] (fuel := 9) rfl (by kernel_rfl) (by kernel_rfl) (fun d _ _ _ _ h => by cases d <;> exact h) ?_
  simp only [opersAt, List.getElem?_toArray, List.getElem?_cons_zero, List.getElem?_cons_succ]
  repeat (go_big_quiet_step (fail))
  refine wpQuiet_nil ?_
  refine mixT_reads [4, 9] (fuel := 7) rfl (by kernel_rfl) (by decide) (by kernel_rfl) (fun d _ _ _ _ h => by cases d <;> exact h) (ext_drew _ _) ?_
  simp only [opersAt, List.getElem?_toArray, List.getElem?_cons_zero, List.getElem?_cons_succ]
  repeat (go_big_quiet_step (fail))
  refine wpQuiet_nil ?_
  refine mixT_two (k := 10) (k' := 14) (by kernel_rfl) rfl rfl ?_ ?_
  · go_wp2_with (go_at_call 201; refine (answerQ_calls _ ok _ _ _ L.sm r.id (HL.out.sm.below (Below.refl _ _).drew) hl.sm hok).mono ?_; rintro e w1 ⟨y0, y1, y2, rfl, hpr, hb1⟩; obtain ⟨⟨a0, n0, c0, rfl⟩, ⟨a1, n1, c1, rfl⟩, ⟨a2, n2, c2, rfl⟩⟩ := hpr.forms)
    have hbw : Below w.heap.size w w1 := (Below.refl _ _).drew.trans hb1
    refine ⟨Or.inr (by intros; exact ⟨⟨_, hbw⟩, rfl⟩), ?_⟩
    have hzz := hbw.size
    have HPR := hide hpr
    have HBW := hide hbw
    have hov : ∀ b0 m0 d0 b1 m1 d1 b2 m2 d2, ones #[.slice b0 m0 d0, .slice b1 m1 d1, .slice b2 m2 d2] 3 = true := fun _ _ _ _ _ _ _ _ _  => rfl
    clear hpr hb1 hbw
    refine mixT_slots [11, 12, 13] (fuel := 3) rfl (by kernel_rfl) (by kernel_rfl) (fun d _ _ _ _ h => by cases d <;> exact h) ?_
    simp only [opersAt, List.getElem?_toArray, List.getElem?_cons_zero, List.getElem?_cons_succ]
    repeat (go_big_quiet_step (fail))
    refine wpQuiet_nil ?_
    refine mixT_one (k := 14) (by kernel_rfl) rfl ?_
    go_wp2
    refine ⟨Or.inr (by intros; exact ⟨⟨_, HBW.out.alloc hzz _⟩, rfl⟩), ?_⟩
    refine mixT_one (k := 15) (by kernel_rfl) rfl ?_
    go_wp2
    refine ⟨Or.inl (by kernel_rfl), ?_⟩
    refine mixT_one (k := 16) (by kernel_rfl) rfl ?_
    go_wp2
    refine ⟨Or.inr (fun h => h), ?_⟩
    refine mixT_nil (by kernel_rfl) ?_
    go_upto_region 2 with fail
    have HV := hide (HBW.out.alloc hzz (.cells #[.slice a0 n0 c0, .slice a1 n1 c1, .slice a2 n2 c2] 40))
    have hvb : (w1.alloc (.cells #[.slice a0 n0 c0, .slice a1 n1 c1, .slice a2 n2 c2] 40)).heap[w1.heap.size]? = some (.cells #[.slice a0 n0 c0, .slice a1 n1 c1, .slice a2 n2 c2] 40 (0, 0)) := heap_alloc_at _ _
    have HPV := hide (HPR.out.below ((Below.refl _ _).alloc (Nat.le_refl _) (.cells #[.slice a0 n0 c0, .slice a1 n1 c1, .slice a2 n2 c2] 40)))
    generalize hg : w1.heap.size = g at *
    generalize (World.alloc w1 _) = V at *
    have hrv : rng V g 0 3 = some #[.slice a0 n0 c0, .slice a1 n1 c1, .slice a2 n2 c2] := rng_whole hvb
    have hgv := blk_lt hvb
    clear hvb HBW HPR hg hzz q3 g21 g25 g26
    refine wp_region_mixT (V.heap.size) [4] (by kernel_rfl) ?_
    refine mixT_slots [0, 1, 2, 3, 5] (fuel := 3) rfl (by kernel_rfl) (by kernel_rfl) (fun d _ _ _ _ h => by cases d <;> exact h) ?_
    simp only [opersAt, List.getElem?_toArray, List.getElem?_cons_zero, List.getElem?_cons_succ]
    repeat (go_big_quiet_step (fail))
    refine wpQuiet_nil ?_
    refine mixT_reads [4] (fuel := 2) rfl (by kernel_rfl) (by decide) (by kernel_rfl) (fun d _ _ _ _ h => by cases d <;> exact h) (ext_drew _ _) ?_
    simp only [opersAt, List.getElem?_toArray, List.getElem?_cons_zero, List.getElem?_cons_succ]
    repeat (go_big_quiet_step (fail))
    refine wpQuiet_nil ?_
    refine mixT_one (k := 6) (by kernel_rfl) rfl ?_
    go_wp2_with (go_at_call 306; refine (settleSm_calls _ D r lv s _ wv iss (HD.out.below HV.out.drew) _ _ _  _ (by intro v hv; simp only [List.mem_cons, List.not_mem_nil, or_false] at hv; rcases hv with rfl | rfl | rfl <;> exact ⟨_, _, _, rfl⟩)).mono ?_; rintro e w3 ⟨rfl, hd3, ho3, -, hb3⟩)
    refine ⟨Or.inl (by kernel_rfl), ?_⟩
    refine mixT_one (k := 7) (by kernel_rfl) rfl ?_
    go_wp2
    refine ⟨Or.inr (fun h => h), ?_⟩
    refine mixT_nil (by kernel_rfl) ?_
    go_wp2
    go_ret
    exact HPost.ofSm HL.out hokD HV.out.drew hDl (HPV.out.below (Below.refl _ _).drew) (move_low L.sm r.id 1 2) hd3 ho3 hb3
  · go_wp2
    have hb0 : Below w.heap.size w (w.drew.alloc (.cells #[.slice none 0 0, .slice none 0 0, .slice none 0 0] 40)) := (Below.refl _ _).drew.alloc (Nat.le_refl _) _
    refine ⟨Or.inr (by intros; exact ⟨⟨_, hb0⟩, rfl⟩), ?_⟩
    have HB0 := hide hb0
    clear hb0
    refine mixT_one (k := 10) (by kernel_rfl) rfl ?_
    have hok' : ∀ b, (w.drew.alloc (.cells #[.slice none 0 0, .slice none 0 0, .slice none 0 0] 40)).heap.size ≤ b → ok b ∧ b ≠ w.heap.size := fun b hb => by
      have h9 : (w.drew.alloc (.cells #[.slice none 0 0, .slice none 0 0, .slice none 0 0] 40)).heap.size = w.heap.size + 1 := by simp
      exact ⟨hok b (by omega), by omega⟩
    have HLA := hide (HL.out.lt.mono (ok' := fun b => (ok b ∧ b ≠ w.heap.size) ∧ b < w.heap.size) (fun _ _ => rfl) (fun b hb => ⟨⟨hb.1, by have := hb.2; omega⟩, hb.2⟩))
    have HLB : Hid (LowAt (w.drew.alloc (.cells #[.slice none 0 0, .slice none 0 0, .slice none 0 0] 40)) (fun b => ok b ∧ b ≠ w.heap.size) ⟨p0, p1, p2, p3, k, s1, s2, s3⟩ L) := HLA.out.mono (fun b hb => HB0.out.block b hb.2) (fun _ hb => hb.1)
    go_wp2_with (go_at_call 201; refine (answerQ_calls _ (fun b => ok b ∧ b ≠ w.heap.size) _ _ _ L.sm r.id HLB.out.sm hl.sm hok').mono ?_; rintro e w1 ⟨y0, y1, y2, rfl, hpr, hb1⟩; obtain ⟨⟨a0, n0, c0, rfl⟩, ⟨a1, n1, c1, rfl⟩, ⟨a2, n2, c2, rfl⟩⟩ := hpr.forms)
    have hbw : Below w.heap.size w w1 := HB0.out.trans (hb1.mono HB0.out.size)
    refine ⟨Or.inr (by intros; exact ⟨⟨_, hbw⟩, rfl⟩), ?_⟩
    have hzz := hbw.size
    have hgb : w1.heap[w.heap.size]? = some (.cells #[.slice none 0 0, .slice none 0 0, .slice none 0 0] 40 (0, 0)) := (hb1.block _ (by simp)).trans (heap_alloc_at _ _)
    have hwg : whole w1 w.heap.size 3 = true := whole_blk hgb
    have hgl := blk_lt hgb
    have HGB := hide hgb
    have HPR := hide hpr
    have HBW := hide hbw
    have hov : ∀ b0 m0 d0 b1 m1 d1 b2 m2 d2, ones #[.slice b0 m0 d0, .slice b1 m1 d1, .slice b2 m2 d2] 3 = true := fun _ _ _ _ _ _ _ _ _  => rfl
    clear hpr hb1 hbw hgb HB0 HLA HLB hok'
    refine mixT_slots [11, 12, 13] (fuel := 2) rfl (by kernel_rfl) (by kernel_rfl) (fun d _ _ _ _ h => by cases d <;> exact h) ?_
    simp only [opersAt, List.getElem?_toArray, List.getElem?_cons_zero, List.getElem?_cons_succ]
    repeat (go_big_quiet_step (fail))
    refine wpQuiet_nil ?_
    refine mixT_one (k := 15) (by kernel_rfl) rfl ?_
    go_wp2
    refine ⟨Or.inl (by kernel_rfl), ?_⟩
    refine mixT_one (k := 16) (by kernel_rfl) rfl ?_
    go_wp2
    refine ⟨Or.inr (fun h => h), ?_⟩
    refine mixT_nil (by kernel_rfl) ?_
    go_upto_region 2 with fail
    have HV : Hid (Below w.heap.size w (w1.setRow w.heap.size #[.slice a0 n0 c0, .slice a1 n1 c1, .slice a2 n2 c2])) := HBW.out.trans (below_setRow' _ _ (Nat.le_refl _))
    have hvb : (w1.setRow w.heap.size #[.slice a0 n0 c0, .slice a1 n1 c1, .slice a2 n2 c2]).heap[w.heap.size]? = some (.cells #[.slice a0 n0 c0, .slice a1 n1 c1, .slice a2 n2 c2] 40 (0, 0)) := heap_setRow_at HGB.out
    have HPV : Hid (SmAt (w1.setRow w.heap.size #[.slice a0 n0 c0, .slice a1 n1 c1, .slice a2 n2 c2]) ok (.slice a0 n0 c0) (.slice a1 n1 c1) (.slice a2 n2 c2) _) := HPR.out.mono (fun _ hb => setRow_other _ _ _ _ hb.2) (fun _ hb => hb.1)
    generalize (World.setRow w1 _ _) = V at *
    have hrv : rng V w.heap.size 0 3 = some #[.slice a0 n0 c0, .slice a1 n1 c1, .slice a2 n2 c2] := rng_whole hvb
    have hgv := blk_lt hvb
    clear hvb HBW HPR HGB hwg hgl hzz q3 g21 g25 g26
    refine wp_region_mixT (V.heap.size) [4] (by kernel_rfl) ?_
    refine mixT_slots [0, 1, 2, 3, 5] (fuel := 3) rfl (by kernel_rfl) (by kernel_rfl) (fun d _ _ _ _ h => by cases d <;> exact h) ?_
    simp only [opersAt, List.getElem?_toArray, List.getElem?_cons_zero, List.getElem?_cons_succ]
    repeat (go_big_quiet_step (fail))
    refine wpQuiet_nil ?_
    refine mixT_reads [4] (fuel := 2) rfl (by kernel_rfl) (by decide) (by kernel_rfl) (fun d _ _ _ _ h => by cases d <;> exact h) (ext_drew _ _) ?_
    simp only [opersAt, List.getElem?_toArray, List.getElem?_cons_zero, List.getElem?_cons_succ]
    repeat (go_big_quiet_step (fail))
    refine wpQuiet_nil ?_
    refine mixT_one (k := 6) (by kernel_rfl) rfl ?_
    go_wp2_with (go_at_call 306; refine (settleSm_calls _ D r lv s _ wv iss (HD.out.below HV.out.drew) _ _ _  _ (by intro v hv; simp only [List.mem_cons, List.not_mem_nil, or_false] at hv; rcases hv with rfl | rfl | rfl <;> exact ⟨_, _, _, rfl⟩)).mono ?_; rintro e w3 ⟨rfl, hd3, ho3, -, hb3⟩)
    refine ⟨Or.inl (by kernel_rfl), ?_⟩
    refine mixT_one (k := 7) (by kernel_rfl) rfl ?_
    go_wp2
    refine ⟨Or.inr (fun h => h), ?_⟩
    refine mixT_nil (by kernel_rfl) ?_
    go_wp2
    go_ret
    exact HPost.ofSm HL.out hokD HV.out.drew hDl (HPV.out.below (Below.refl _ _).drew) (move_low L.sm r.id 1 2) hd3 ho3 hb3

set_option maxRecDepth 100000 in
set_option maxHeartbeats 2000000 in
theorem hClose_calls (w : World) (S D : Nat) (ok : Nat → Prop) (r : Req) (lv : Value) (s : Stat) (x : LV) (wv : Value) (iss : Int) (L : Low) (hd : DraftAt w D r lv s x wv iss) (hlow : LowAt w ok x L) (hl : L.Small) (hokD : ∀ b, ok b → b ≠ D) (hok : ∀ b, w.heap.size ≤ b → ok b) :
    Calls Tryz.prog 299 #[.pointer (some ⟨S, 0, none⟩), .pointer (some ⟨D, 0, none⟩)] w fun e w' => HPost w w' D ok r lv s wv iss e { L with sm := (moveQ L.sm r.id 2 3).1 } (moveQ L.sm r.id 2 3).2 := by
  have hDl := hd.lt
  obtain ⟨g21, g25, g26⟩ := hd.rng
  have hc := hd.cells.2
  have q3 := hc 3
  simp only [draftCs, List.getElem?_toArray, List.getElem?_cons_succ, List.getElem?_cons_zero] at q3
  have HD := hide hd
  have HL := hide hlow
  obtain ⟨p0, p1, p2, p3, k, s1, s2, s3⟩ := x
  simp only at g21 g25 g26
  clear hc hd hlow
  go_enter Tryz.func299, Tryz.ntmps299
  go_upto_region 1 with fail
  refine wp_region_mixT (w.heap.size) [4, 9] (by kernel_rfl) ?_
  refine mixT_slots [0, 1, 2, 3, 5, 6, 7, 8] (fuel := 9) rfl (by kernel_rfl) (by kernel_rfl) (fun d _ _ _ _ h => by cases d <;> exact h) ?_
  simp only [opersAt, List.getElem?_toArray, List.getElem?_cons_zero, List.getElem?_cons_succ]
  repeat (go_big_quiet_step (fail))
  refine wpQuiet_nil ?_
  refine mixT_reads [4, 9] (fuel := 7) rfl (by kernel_rfl) (by decide) (by kernel_rfl) (fun d _ _ _ _ h => by cases d <;> exact h) (ext_drew _ _) ?_
  simp only [opersAt, List.getElem?_toArray, List.getElem?_cons_zero, List.getElem?_cons_succ]
  repeat (go_big_quiet_step (fail))
  refine wpQuiet_nil ?_
  refine mixT_two (k := 10) (k' := 14) (by kernel_rfl) rfl rfl ?_ ?_
  · go_wp2_with (go_at_call 202; refine (closeQ_calls _ ok _ _ _ L.sm r.id (HL.out.sm.below (Below.refl _ _).drew) hl.sm hok).mono ?_; rintro e w1 ⟨y0, y1, y2, rfl, hpr, hb1⟩; obtain ⟨⟨a0, n0, c0, rfl⟩, ⟨a1, n1, c1, rfl⟩, ⟨a2, n2, c2, rfl⟩⟩ := hpr.forms)
    have hbw : Below w.heap.size w w1 := (Below.refl _ _).drew.trans hb1
    refine ⟨Or.inr (by intros; exact ⟨⟨_, hbw⟩, rfl⟩), ?_⟩
    have hzz := hbw.size
    have HPR := hide hpr
    have HBW := hide hbw
    have hov : ∀ b0 m0 d0 b1 m1 d1 b2 m2 d2, ones #[.slice b0 m0 d0, .slice b1 m1 d1, .slice b2 m2 d2] 3 = true := fun _ _ _ _ _ _ _ _ _  => rfl
    clear hpr hb1 hbw
    refine mixT_slots [11, 12, 13] (fuel := 3) rfl (by kernel_rfl) (by kernel_rfl) (fun d _ _ _ _ h => by cases d <;> exact h) ?_
    simp only [opersAt, List.getElem?_toArray, List.getElem?_cons_zero, List.getElem?_cons_succ]
    repeat (go_big_quiet_step (fail))
    refine wpQuiet_nil ?_
    refine mixT_one (k := 14) (by kernel_rfl) rfl ?_
    go_wp2
    refine ⟨Or.inr (by intros; exact ⟨⟨_, HBW.out.alloc hzz _⟩, rfl⟩), ?_⟩
    refine mixT_one (k := 15) (by kernel_rfl) rfl ?_
    go_wp2
    refine ⟨Or.inl (by kernel_rfl), ?_⟩
    refine mixT_one (k := 16) (by kernel_rfl) rfl ?_
    go_wp2
    refine ⟨Or.inr (fun h => h), ?_⟩
    refine mixT_nil (by kernel_rfl) ?_
    go_upto_region 2 with fail
    have HV := hide (HBW.out.alloc hzz (.cells #[.slice a0 n0 c0, .slice a1 n1 c1, .slice a2 n2 c2] 40))
    have hvb : (w1.alloc (.cells #[.slice a0 n0 c0, .slice a1 n1 c1, .slice a2 n2 c2] 40)).heap[w1.heap.size]? = some (.cells #[.slice a0 n0 c0, .slice a1 n1 c1, .slice a2 n2 c2] 40 (0, 0)) := heap_alloc_at _ _
    have HPV := hide (HPR.out.below ((Below.refl _ _).alloc (Nat.le_refl _) (.cells #[.slice a0 n0 c0, .slice a1 n1 c1, .slice a2 n2 c2] 40)))
    generalize hg : w1.heap.size = g at *
    generalize (World.alloc w1 _) = V at *
    have hrv : rng V g 0 3 = some #[.slice a0 n0 c0, .slice a1 n1 c1, .slice a2 n2 c2] := rng_whole hvb
    have hgv := blk_lt hvb
    clear hvb HBW HPR hg hzz q3 g21 g25 g26
    refine wp_region_mixT (V.heap.size) [4] (by kernel_rfl) ?_
    refine mixT_slots [0, 1, 2, 3, 5] (fuel := 3) rfl (by kernel_rfl) (by kernel_rfl) (fun d _ _ _ _ h => by cases d <;> exact h) ?_
    simp only [opersAt, List.getElem?_toArray, List.getElem?_cons_zero, List.getElem?_cons_succ]
    repeat (go_big_quiet_step (fail))
    refine wpQuiet_nil ?_
    refine mixT_reads [4] (fuel := 2) rfl (by kernel_rfl) (by decide) (by kernel_rfl) (fun d _ _ _ _ h => by cases d <;> exact h) (ext_drew _ _) ?_
    simp only [opersAt, List.getElem?_toArray, List.getElem?_cons_zero, List.getElem?_cons_succ]
    repeat (go_big_quiet_step (fail))
    refine wpQuiet_nil ?_
    refine mixT_one (k := 6) (by kernel_rfl) rfl ?_
    go_wp2_with (go_at_call 306; refine (settleSm_calls _ D r lv s _ wv iss (HD.out.below HV.out.drew) _ _ _  _ (by intro v hv; simp only [List.mem_cons, List.not_mem_nil, or_false] at hv; rcases hv with rfl | rfl | rfl <;> exact ⟨_, _, _, rfl⟩)).mono ?_; rintro e w3 ⟨rfl, hd3, ho3, -, hb3⟩)
    refine ⟨Or.inl (by kernel_rfl), ?_⟩
    refine mixT_one (k := 7) (by kernel_rfl) rfl ?_
    go_wp2
    refine ⟨Or.inr (fun h => h), ?_⟩
    refine mixT_nil (by kernel_rfl) ?_
    go_wp2
    go_ret
    exact HPost.ofSm HL.out hokD HV.out.drew hDl (HPV.out.below (Below.refl _ _).drew) (move_low L.sm r.id 2 3) hd3 ho3 hb3
  · go_wp2
    have hb0 : Below w.heap.size w (w.drew.alloc (.cells #[.slice none 0 0, .slice none 0 0, .slice none 0 0] 40)) := (Below.refl _ _).drew.alloc (Nat.le_refl _) _
    refine ⟨Or.inr (by intros; exact ⟨⟨_, hb0⟩, rfl⟩), ?_⟩
    have HB0 := hide hb0
    clear hb0
    refine mixT_one (k := 10) (by kernel_rfl) rfl ?_
    have hok' : ∀ b, (w.drew.alloc (.cells #[.slice none 0 0, .slice none 0 0, .slice none 0 0] 40)).heap.size ≤ b → ok b ∧ b ≠ w.heap.size := fun b hb => by
      have h9 : (w.drew.alloc (.cells #[.slice none 0 0, .slice none 0 0, .slice none 0 0] 40)).heap.size = w.heap.size + 1 := by simp
      exact ⟨hok b (by omega), by omega⟩
    have HLA := hide (HL.out.lt.mono (ok' := fun b => (ok b ∧ b ≠ w.heap.size) ∧ b < w.heap.size) (fun _ _ => rfl) (fun b hb => ⟨⟨hb.1, by have := hb.2; omega⟩, hb.2⟩))
    have HLB : Hid (LowAt (w.drew.alloc (.cells #[.slice none 0 0, .slice none 0 0, .slice none 0 0] 40)) (fun b => ok b ∧ b ≠ w.heap.size) ⟨p0, p1, p2, p3, k, s1, s2, s3⟩ L) := HLA.out.mono (fun b hb => HB0.out.block b hb.2) (fun _ hb => hb.1)
    go_wp2_with (go_at_call 202; refine (closeQ_calls _ (fun b => ok b ∧ b ≠ w.heap.size) _ _ _ L.sm r.id HLB.out.sm hl.sm hok').mono ?_; rintro e w1 ⟨y0, y1, y2, rfl, hpr, hb1⟩; obtain ⟨⟨a0, n0, c0, rfl⟩, ⟨a1, n1, c1, rfl⟩, ⟨a2, n2, c2, rfl⟩⟩ := hpr.forms)
    have hbw : Below w.heap.size w w1 := HB0.out.trans (hb1.mono HB0.out.size)
    refine ⟨Or.inr (by intros; exact ⟨⟨_, hbw⟩, rfl⟩), ?_⟩
    have hzz := hbw.size
    have hgb : w1.heap[w.heap.size]? = some (.cells #[.slice none 0 0, .slice none 0 0, .slice none 0 0] 40 (0, 0)) := (hb1.block _ (by simp)).trans (heap_alloc_at _ _)
    have hwg : whole w1 w.heap.size 3 = true := whole_blk hgb
    have hgl := blk_lt hgb
    have HGB := hide hgb
    have HPR := hide hpr
    have HBW := hide hbw
    have hov : ∀ b0 m0 d0 b1 m1 d1 b2 m2 d2, ones #[.slice b0 m0 d0, .slice b1 m1 d1, .slice b2 m2 d2] 3 = true := fun _ _ _ _ _ _ _ _ _  => rfl
    clear hpr hb1 hbw hgb HB0 HLA HLB hok'
    refine mixT_slots [11, 12, 13] (fuel := 2) rfl (by kernel_rfl) (by kernel_rfl) (fun d _ _ _ _ h => by cases d <;> exact h) ?_
    simp only [opersAt, List.getElem?_toArray, List.getElem?_cons_zero, List.getElem?_cons_succ]
    repeat (go_big_quiet_step (fail))
    refine wpQuiet_nil ?_
    refine mixT_one (k := 15) (by kernel_rfl) rfl ?_
    go_wp2
    refine ⟨Or.inl (by kernel_rfl), ?_⟩
    refine mixT_one (k := 16) (by kernel_rfl) rfl ?_
    go_wp2
    refine ⟨Or.inr (fun h => h), ?_⟩
    refine mixT_nil (by kernel_rfl) ?_
    go_upto_region 2 with fail
    have HV : Hid (Below w.heap.size w (w1.setRow w.heap.size #[.slice a0 n0 c0, .slice a1 n1 c1, .slice a2 n2 c2])) := HBW.out.trans (below_setRow' _ _ (Nat.le_refl _))
    have hvb : (w1.setRow w.heap.size #[.slice a0 n0 c0, .slice a1 n1 c1, .slice a2 n2 c2]).heap[w.heap.size]? = some (.cells #[.slice a0 n0 c0, .slice a1 n1 c1, .slice a2 n2 c2] 40 (0, 0)) := heap_setRow_at HGB.out
    have HPV : Hid (SmAt (w1.setRow w.heap.size #[.slice a0 n0 c0, .slice a1 n1 c1, .slice a2 n2 c2]) ok (.slice a0 n0 c0) (.slice a1 n1 c1) (.slice a2 n2 c2) _) := HPR.out.mono (fun _ hb => setRow_other _ _ _ _ hb.2) (fun _ hb => hb.1)
    generalize (World.setRow w1 _ _) = V at *
    have hrv : rng V w.heap.size 0 3 = some #[.slice a0 n0 c0, .slice a1 n1 c1, .slice a2 n2 c2] := rng_whole hvb
    have hgv := blk_lt hvb
    clear hvb HBW HPR HGB hwg hgl hzz q3 g21 g25 g26
    refine wp_region_mixT (V.heap.size) [4] (by kernel_rfl) ?_
    refine mixT_slots [0, 1, 2, 3, 5] (fuel := 3) rfl (by kernel_rfl) (by kernel_rfl) (fun d _ _ _ _ h => by cases d <;> exact h) ?_
    simp only [opersAt, List.getElem?_toArray, List.getElem?_cons_zero, List.getElem?_cons_succ]
    repeat (go_big_quiet_step (fail))
    refine wpQuiet_nil ?_
    refine mixT_reads [4] (fuel := 2) rfl (by kernel_rfl) (by decide) (by kernel_rfl) (fun d _ _ _ _ h => by cases d <;> exact h) (ext_drew _ _) ?_
    simp only [opersAt, List.getElem?_toArray, List.getElem?_cons_zero, List.getElem?_cons_succ]
    repeat (go_big_quiet_step (fail))
    refine wpQuiet_nil ?_
    refine mixT_one (k := 6) (by kernel_rfl) rfl ?_
    go_wp2_with (go_at_call 306; refine (settleSm_calls _ D r lv s _ wv iss (HD.out.below HV.out.drew) _ _ _  _ (by intro v hv; simp only [List.mem_cons, List.not_mem_nil, or_false] at hv; rcases hv with rfl | rfl | rfl <;> exact ⟨_, _, _, rfl⟩)).mono ?_; rintro e w3 ⟨rfl, hd3, ho3, -, hb3⟩)
    refine ⟨Or.inl (by kernel_rfl), ?_⟩
    refine mixT_one (k := 7) (by kernel_rfl) rfl ?_
    go_wp2
    refine ⟨Or.inr (fun h => h), ?_⟩
    refine mixT_nil (by kernel_rfl) ?_
    go_wp2
    go_ret
    exact HPost.ofSm HL.out hokD HV.out.drew hDl (HPV.out.below (Below.refl _ _).drew) (move_low L.sm r.id 2 3) hd3 ho3 hb3

set_option maxRecDepth 100000 in
set_option maxHeartbeats 2000000 in
theorem hReop_calls (w : World) (S D : Nat) (ok : Nat → Prop) (r : Req) (lv : Value) (s : Stat) (x : LV) (wv : Value) (iss : Int) (L : Low) (hd : DraftAt w D r lv s x wv iss) (hlow : LowAt w ok x L) (hl : L.Small) (hokD : ∀ b, ok b → b ≠ D) (hok : ∀ b, w.heap.size ≤ b → ok b) :
    Calls Tryz.prog 300 #[.pointer (some ⟨S, 0, none⟩), .pointer (some ⟨D, 0, none⟩)] w fun e w' => HPost w w' D ok r lv s wv iss e { L with sm := (moveQ L.sm r.id 2 1).1 } (moveQ L.sm r.id 2 1).2 := by
  have hDl := hd.lt
  obtain ⟨g21, g25, g26⟩ := hd.rng
  have hc := hd.cells.2
  have q3 := hc 3
  simp only [draftCs, List.getElem?_toArray, List.getElem?_cons_succ, List.getElem?_cons_zero] at q3
  have HD := hide hd
  have HL := hide hlow
  obtain ⟨p0, p1, p2, p3, k, s1, s2, s3⟩ := x
  simp only at g21 g25 g26
  clear hc hd hlow
  go_enter Tryz.func300, Tryz.ntmps300
  go_upto_region 1 with fail
  refine wp_region_mixT (w.heap.size) [4, 9] (by kernel_rfl) ?_
  refine mixT_slots [0, 1, 2, 3, 5, 6, 7, 8] (fuel := 9) rfl (by kernel_rfl) (by kernel_rfl) (fun d _ _ _ _ h => by cases d <;> exact h) ?_
  simp only [opersAt, List.getElem?_toArray, List.getElem?_cons_zero, List.getElem?_cons_succ]
  repeat (go_big_quiet_step (fail))
  refine wpQuiet_nil ?_
  refine mixT_reads [4, 9] (fuel := 7) rfl (by kernel_rfl) (by decide) (by kernel_rfl) (fun d _ _ _ _ h => by cases d <;> exact h) (ext_drew _ _) ?_
  simp only [opersAt, List.getElem?_toArray, List.getElem?_cons_zero, List.getElem?_cons_succ]
  repeat (go_big_quiet_step (fail))
  refine wpQuiet_nil ?_
  refine mixT_two (k := 10) (k' := 14) (by kernel_rfl) rfl rfl ?_ ?_
  · go_wp2_with (go_at_call 203; refine (reopenQ_calls _ ok _ _ _ L.sm r.id (HL.out.sm.below (Below.refl _ _).drew) hl.sm hok).mono ?_; rintro e w1 ⟨y0, y1, y2, rfl, hpr, hb1⟩; obtain ⟨⟨a0, n0, c0, rfl⟩, ⟨a1, n1, c1, rfl⟩, ⟨a2, n2, c2, rfl⟩⟩ := hpr.forms)
    have hbw : Below w.heap.size w w1 := (Below.refl _ _).drew.trans hb1
    refine ⟨Or.inr (by intros; exact ⟨⟨_, hbw⟩, rfl⟩), ?_⟩
    have hzz := hbw.size
    have HPR := hide hpr
    have HBW := hide hbw
    have hov : ∀ b0 m0 d0 b1 m1 d1 b2 m2 d2, ones #[.slice b0 m0 d0, .slice b1 m1 d1, .slice b2 m2 d2] 3 = true := fun _ _ _ _ _ _ _ _ _  => rfl
    clear hpr hb1 hbw
    refine mixT_slots [11, 12, 13] (fuel := 3) rfl (by kernel_rfl) (by kernel_rfl) (fun d _ _ _ _ h => by cases d <;> exact h) ?_
    simp only [opersAt, List.getElem?_toArray, List.getElem?_cons_zero, List.getElem?_cons_succ]
    repeat (go_big_quiet_step (fail))
    refine wpQuiet_nil ?_
    refine mixT_one (k := 14) (by kernel_rfl) rfl ?_
    go_wp2
    refine ⟨Or.inr (by intros; exact ⟨⟨_, HBW.out.alloc hzz _⟩, rfl⟩), ?_⟩
    refine mixT_one (k := 15) (by kernel_rfl) rfl ?_
    go_wp2
    refine ⟨Or.inl (by kernel_rfl), ?_⟩
    refine mixT_one (k := 16) (by kernel_rfl) rfl ?_
    go_wp2
    refine ⟨Or.inr (fun h => h), ?_⟩
    refine mixT_nil (by kernel_rfl) ?_
    go_upto_region 2 with fail
    have HV := hide (HBW.out.alloc hzz (.cells #[.slice a0 n0 c0, .slice a1 n1 c1, .slice a2 n2 c2] 40))
    have hvb : (w1.alloc (.cells #[.slice a0 n0 c0, .slice a1 n1 c1, .slice a2 n2 c2] 40)).heap[w1.heap.size]? = some (.cells #[.slice a0 n0 c0, .slice a1 n1 c1, .slice a2 n2 c2] 40 (0, 0)) := heap_alloc_at _ _
    have HPV := hide (HPR.out.below ((Below.refl _ _).alloc (Nat.le_refl _) (.cells #[.slice a0 n0 c0, .slice a1 n1 c1, .slice a2 n2 c2] 40)))
    generalize hg : w1.heap.size = g at *
    generalize (World.alloc w1 _) = V at *
    have hrv : rng V g 0 3 = some #[.slice a0 n0 c0, .slice a1 n1 c1, .slice a2 n2 c2] := rng_whole hvb
    have hgv := blk_lt hvb
    clear hvb HBW HPR hg hzz q3 g21 g25 g26
    refine wp_region_mixT (V.heap.size) [4] (by kernel_rfl) ?_
    refine mixT_slots [0, 1, 2, 3, 5] (fuel := 3) rfl (by kernel_rfl) (by kernel_rfl) (fun d _ _ _ _ h => by cases d <;> exact h) ?_
    simp only [opersAt, List.getElem?_toArray, List.getElem?_cons_zero, List.getElem?_cons_succ]
    repeat (go_big_quiet_step (fail))
    refine wpQuiet_nil ?_
    refine mixT_reads [4] (fuel := 2) rfl (by kernel_rfl) (by decide) (by kernel_rfl) (fun d _ _ _ _ h => by cases d <;> exact h) (ext_drew _ _) ?_
    simp only [opersAt, List.getElem?_toArray, List.getElem?_cons_zero, List.getElem?_cons_succ]
    repeat (go_big_quiet_step (fail))
    refine wpQuiet_nil ?_
    refine mixT_one (k := 6) (by kernel_rfl) rfl ?_
    go_wp2_with (go_at_call 306; refine (settleSm_calls _ D r lv s _ wv iss (HD.out.below HV.out.drew) _ _ _  _ (by intro v hv; simp only [List.mem_cons, List.not_mem_nil, or_false] at hv; rcases hv with rfl | rfl | rfl <;> exact ⟨_, _, _, rfl⟩)).mono ?_; rintro e w3 ⟨rfl, hd3, ho3, -, hb3⟩)
    refine ⟨Or.inl (by kernel_rfl), ?_⟩
    refine mixT_one (k := 7) (by kernel_rfl) rfl ?_
    go_wp2
    refine ⟨Or.inr (fun h => h), ?_⟩
    refine mixT_nil (by kernel_rfl) ?_
    go_wp2
    go_ret
    exact HPost.ofSm HL.out hokD HV.out.drew hDl (HPV.out.below (Below.refl _ _).drew) (move_low L.sm r.id 2 1) hd3 ho3 hb3
  · go_wp2
    have hb0 : Below w.heap.size w (w.drew.alloc (.cells #[.slice none 0 0, .slice none 0 0, .slice none 0 0] 40)) := (Below.refl _ _).drew.alloc (Nat.le_refl _) _
    refine ⟨Or.inr (by intros; exact ⟨⟨_, hb0⟩, rfl⟩), ?_⟩
    have HB0 := hide hb0
    clear hb0
    refine mixT_one (k := 10) (by kernel_rfl) rfl ?_
    have hok' : ∀ b, (w.drew.alloc (.cells #[.slice none 0 0, .slice none 0 0, .slice none 0 0] 40)).heap.size ≤ b → ok b ∧ b ≠ w.heap.size := fun b hb => by
      have h9 : (w.drew.alloc (.cells #[.slice none 0 0, .slice none 0 0, .slice none 0 0] 40)).heap.size = w.heap.size + 1 := by simp
      exact ⟨hok b (by omega), by omega⟩
    have HLA := hide (HL.out.lt.mono (ok' := fun b => (ok b ∧ b ≠ w.heap.size) ∧ b < w.heap.size) (fun _ _ => rfl) (fun b hb => ⟨⟨hb.1, by have := hb.2; omega⟩, hb.2⟩))
    have HLB : Hid (LowAt (w.drew.alloc (.cells #[.slice none 0 0, .slice none 0 0, .slice none 0 0] 40)) (fun b => ok b ∧ b ≠ w.heap.size) ⟨p0, p1, p2, p3, k, s1, s2, s3⟩ L) := HLA.out.mono (fun b hb => HB0.out.block b hb.2) (fun _ hb => hb.1)
    go_wp2_with (go_at_call 203; refine (reopenQ_calls _ (fun b => ok b ∧ b ≠ w.heap.size) _ _ _ L.sm r.id HLB.out.sm hl.sm hok').mono ?_; rintro e w1 ⟨y0, y1, y2, rfl, hpr, hb1⟩; obtain ⟨⟨a0, n0, c0, rfl⟩, ⟨a1, n1, c1, rfl⟩, ⟨a2, n2, c2, rfl⟩⟩ := hpr.forms)
    have hbw : Below w.heap.size w w1 := HB0.out.trans (hb1.mono HB0.out.size)
    refine ⟨Or.inr (by intros; exact ⟨⟨_, hbw⟩, rfl⟩), ?_⟩
    have hzz := hbw.size
    have hgb : w1.heap[w.heap.size]? = some (.cells #[.slice none 0 0, .slice none 0 0, .slice none 0 0] 40 (0, 0)) := (hb1.block _ (by simp)).trans (heap_alloc_at _ _)
    have hwg : whole w1 w.heap.size 3 = true := whole_blk hgb
    have hgl := blk_lt hgb
    have HGB := hide hgb
    have HPR := hide hpr
    have HBW := hide hbw
    have hov : ∀ b0 m0 d0 b1 m1 d1 b2 m2 d2, ones #[.slice b0 m0 d0, .slice b1 m1 d1, .slice b2 m2 d2] 3 = true := fun _ _ _ _ _ _ _ _ _  => rfl
    clear hpr hb1 hbw hgb HB0 HLA HLB hok'
    refine mixT_slots [11, 12, 13] (fuel := 2) rfl (by kernel_rfl) (by kernel_rfl) (fun d _ _ _ _ h => by cases d <;> exact h) ?_
    simp only [opersAt, List.getElem?_toArray, List.getElem?_cons_zero, List.getElem?_cons_succ]
    repeat (go_big_quiet_step (fail))
    refine wpQuiet_nil ?_
    refine mixT_one (k := 15) (by kernel_rfl) rfl ?_
    go_wp2
    refine ⟨Or.inl (by kernel_rfl), ?_⟩
    refine mixT_one (k := 16) (by kernel_rfl) rfl ?_
    go_wp2
    refine ⟨Or.inr (fun h => h), ?_⟩
    refine mixT_nil (by kernel_rfl) ?_
    go_upto_region 2 with fail
    have HV : Hid (Below w.heap.size w (w1.setRow w.heap.size #[.slice a0 n0 c0, .slice a1 n1 c1, .slice a2 n2 c2])) := HBW.out.trans (below_setRow' _ _ (Nat.le_refl _))
    have hvb : (w1.setRow w.heap.size #[.slice a0 n0 c0, .slice a1 n1 c1, .slice a2 n2 c2]).heap[w.heap.size]? = some (.cells #[.slice a0 n0 c0, .slice a1 n1 c1, .slice a2 n2 c2] 40 (0, 0)) := heap_setRow_at HGB.out
    have HPV : Hid (SmAt (w1.setRow w.heap.size #[.slice a0 n0 c0, .slice a1 n1 c1, .slice a2 n2 c2]) ok (.slice a0 n0 c0) (.slice a1 n1 c1) (.slice a2 n2 c2) _) := HPR.out.mono (fun _ hb => setRow_other _ _ _ _ hb.2) (fun _ hb => hb.1)
    generalize (World.setRow w1 _ _) = V at *
    have hrv : rng V w.heap.size 0 3 = some #[.slice a0 n0 c0, .slice a1 n1 c1, .slice a2 n2 c2] := rng_whole hvb
    have hgv := blk_lt hvb
    clear hvb HBW HPR HGB hwg hgl hzz q3 g21 g25 g26
    refine wp_region_mixT (V.heap.size) [4] (by kernel_rfl) ?_
    refine mixT_slots [0, 1, 2, 3, 5] (fuel := 3) rfl (by kernel_rfl) (by kernel_rfl) (fun d _ _ _ _ h => by cases d <;> exact h) ?_
    simp only [opersAt, List.getElem?_toArray, List.getElem?_cons_zero, List.getElem?_cons_succ]
    repeat (go_big_quiet_step (fail))
    refine wpQuiet_nil ?_
    refine mixT_reads [4] (fuel := 2) rfl (by kernel_rfl) (by decide) (by kernel_rfl) (fun d _ _ _ _ h => by cases d <;> exact h) (ext_drew _ _) ?_
    simp only [opersAt, List.getElem?_toArray, List.getElem?_cons_zero, List.getElem?_cons_succ]
    repeat (go_big_quiet_step (fail))
    refine wpQuiet_nil ?_
    refine mixT_one (k := 6) (by kernel_rfl) rfl ?_
    go_wp2_with (go_at_call 306; refine (settleSm_calls _ D r lv s _ wv iss (HD.out.below HV.out.drew) _ _ _  _ (by intro v hv; simp only [List.mem_cons, List.not_mem_nil, or_false] at hv; rcases hv with rfl | rfl | rfl <;> exact ⟨_, _, _, rfl⟩)).mono ?_; rintro e w3 ⟨rfl, hd3, ho3, -, hb3⟩)
    refine ⟨Or.inl (by kernel_rfl), ?_⟩
    refine mixT_one (k := 7) (by kernel_rfl) rfl ?_
    go_wp2
    refine ⟨Or.inr (fun h => h), ?_⟩
    refine mixT_nil (by kernel_rfl) ?_
    go_wp2
    go_ret
    exact HPost.ofSm HL.out hokD HV.out.drew hDl (HPV.out.below (Below.refl _ _).drew) (move_low L.sm r.id 2 1) hd3 ho3 hb3

end Go.Proofs.Qxb6500666aGreatDoor
