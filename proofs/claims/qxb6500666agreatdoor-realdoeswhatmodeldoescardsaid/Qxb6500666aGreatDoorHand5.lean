/- The handlers that only turn the layers beneath, walked. (Made by tools/mk_hand.py.) -/
import Derived.Test.Qxb6500666aGreatDoorHand1
namespace Go.Proofs.Qxb6500666aGreatDoor
open Go.RowKit

attribute [local go_sem] ext_const Ext.cell Ext.frozen Ext.rng Ext.whole
attribute [local go_sem ↓] exec_ldPrS exec_stPrS exec_ldKtS exec_stKtS exec_ldSmS exec_stSmS
attribute [local go_sem] run_ldPrS run_stPrS run_ldKtS run_stKtS run_ldSmS run_stSmS whole_alloc_lt whole_alloc_at whole_drew setRow_alloc_at setRow_alloc_lt rng_alloc_lt rng_alloc_at rng_drew rng_drewN rng_setCell_other whole_setCell_other

set_option maxRecDepth 100000 in
set_option maxHeartbeats 2000000 in
theorem hShip_calls (w : World) (S D : Nat) (ok : Nat → Prop) (r : Req) (lv : Value) (s : Stat) (x : LV) (wv : Value) (iss : Int) (L : Low) (hd : DraftAt w D r lv s x wv iss) (hlow : LowAt w ok x L) (hl : L.Small) (hokD : ∀ b, ok b → b ≠ D) (hok : ∀ b, w.heap.size ≤ b → ok b) :
    Calls Tryz.prog 290 #[.pointer (some ⟨S, 0, none⟩), .pointer (some ⟨D, 0, none⟩)] w fun e w' => HPost w w' D ok r lv s wv iss e { L with kit := (shipK L r.id r.ref).1 } (shipK L r.id r.ref).2 := by
  have hDl := hd.lt
  obtain ⟨g21, g25, g26⟩ := hd.rng
  have hc := hd.cells.2
  have q3 := hc 3
  have q4 := hc 4
  simp only [draftCs, List.getElem?_toArray, List.getElem?_cons_succ, List.getElem?_cons_zero] at q3 q4
  have HD := hide hd
  have HL := hide hlow
  obtain ⟨p0, p1, p2, p3, k, s1, s2, s3⟩ := x
  simp only at g21 g25 g26
  clear hc hd hlow
  go_enter Tryz.func290, Tryz.ntmps290
  go_upto_region 1 with fail
  have q4' := q4
  cases t0 : L.pr.site.any (fun x : Int => (x == r.ref)) with
  | false =>
    have HE : Hid (shipK L r.id r.ref = (L.kit, 18)) := by show _ = _; simp only [shipK, t0]; rfl
    refine wp_region_mixT (w.heap.size) [4, 9] (by kernel_rfl) ?_
    refine mixT_slots [0, 1, 2, 3, 5, 6, 7, 8] (fuel := 4) rfl (by kernel_rfl) (by kernel_rfl) (fun d _ _ _ _ h => by cases d <;> exact h) ?_
    simp only [opersAt, List.getElem?_toArray, List.getElem?_cons_zero, List.getElem?_cons_succ]
    repeat (go_big_quiet_step (fail))
    refine wpQuiet_nil ?_
    refine mixT_reads [4, 9] (fuel := 2) rfl (by kernel_rfl) (by decide) (by kernel_rfl) (fun d _ _ _ _ h => by cases d <;> exact h) (ext_drew _ _) ?_
    simp only [opersAt, List.getElem?_toArray, List.getElem?_cons_zero, List.getElem?_cons_succ]
    repeat (go_big_quiet_step (fail))
    refine wpQuiet_nil ?_
    refine mixT_one (k := 10) (by kernel_rfl) rfl ?_
    go_wp2_with (go_at_call 192; refine (hasSite_calls _ ok _ _ _ _ L.pr.site r.ref (HL.out.pr.below (Below.refl _ _).drew).s).mono ?_; rintro e w1 ⟨rfl, hb1⟩; rw [findV_any, t0])
    have hbw : Below w.heap.size w w1 := (Below.refl _ _).drew.trans hb1
    refine ⟨Or.inr (by intros; exact ⟨⟨_, hbw⟩, rfl⟩), ?_⟩
    refine mixT_one (k := 11) (by kernel_rfl) rfl ?_
    go_wp2
    refine ⟨Or.inr (fun h => h), ?_⟩
    refine mixT_nil (by kernel_rfl) ?_
    go_wp2
    go_ret
    rw [HE.out]
    exact ⟨rfl, ⟨_, HD.out.below hbw, HL.out.below hbw⟩, Kept.of_below hbw (by omega)⟩
  | true =>
    have HE : Hid (shipK L r.id r.ref = shipP L.kit r.id r.ref) := by show _ = _; simp only [shipK, t0]; rfl
    refine wp_region_mixT (w.heap.size) [4, 9] (by kernel_rfl) ?_
    refine mixT_slots [0, 1, 2, 3, 5, 6, 7, 8] (fuel := 4) rfl (by kernel_rfl) (by kernel_rfl) (fun d _ _ _ _ h => by cases d <;> exact h) ?_
    simp only [opersAt, List.getElem?_toArray, List.getElem?_cons_zero, List.getElem?_cons_succ]
    repeat (go_big_quiet_step (fail))
    refine wpQuiet_nil ?_
    refine mixT_reads [4, 9] (fuel := 2) rfl (by kernel_rfl) (by decide) (by kernel_rfl) (fun d _ _ _ _ h => by cases d <;> exact h) (ext_drew _ _) ?_
    simp only [opersAt, List.getElem?_toArray, List.getElem?_cons_zero, List.getElem?_cons_succ]
    repeat (go_big_quiet_step (fail))
    refine wpQuiet_nil ?_
    refine mixT_one (k := 10) (by kernel_rfl) rfl ?_
    go_wp2_with (go_at_call 192; refine (hasSite_calls _ ok _ _ _ _ L.pr.site r.ref (HL.out.pr.below (Below.refl _ _).drew).s).mono ?_; rintro e w0 ⟨rfl, hb0⟩; rw [findV_any, t0])
    have hbw : Below w.heap.size w w0 := (Below.refl _ _).drew.trans hb0
    refine ⟨Or.inr (by intros; exact ⟨⟨_, hbw⟩, rfl⟩), ?_⟩
    refine mixT_one (k := 11) (by kernel_rfl) rfl ?_
    go_wp2
    refine ⟨Or.inr (fun h => h), ?_⟩
    refine mixT_nil (by kernel_rfl) ?_
    have hz0 := hbw.size
    have HDw : Hid (D ≤ w.heap.size) := Nat.le_of_lt hDl
    have HBW0 := hide hbw
    have hd0 := HD.out.below hbw
    have HL0 := hide (HL.out.below hbw)
    have hok0 : ∀ b, w0.heap.size ≤ b → ok b := fun b hb => hok b (by omega)
    clear q3 q4 q4' g21 g25 g26 hbw hb0 HD HL hok hDl
    have hDl := hd0.lt
    obtain ⟨g21, g25, g26⟩ := hd0.rng
    have hc := hd0.cells.2
    have q3 := hc 3
    have q4 := hc 4
    simp only [draftCs, List.getElem?_toArray, List.getElem?_cons_succ, List.getElem?_cons_zero] at q3 q4
    simp only at g21 g25 g26
    have HD := hide hd0
    have HL := HL0
    have hok := hok0
    clear hc hd0 HL0 hok0
    go_upto_region 3 with fail
    refine wp_region_mixT (w0.heap.size) [4, 9, 14] (by kernel_rfl) ?_
    refine mixT_slots [0, 1, 2, 3, 5, 6, 7, 8, 10, 11, 12, 13] (fuel := 10) rfl (by kernel_rfl) (by kernel_rfl) (fun d _ _ _ _ h => by cases d <;> exact h) ?_
    simp only [opersAt, List.getElem?_toArray, List.getElem?_cons_zero, List.getElem?_cons_succ]
    repeat (go_big_quiet_step (fail))
    refine wpQuiet_nil ?_
    refine mixT_reads [4, 9, 14] (fuel := 7) rfl (by kernel_rfl) (by decide) (by kernel_rfl) (fun d _ _ _ _ h => by cases d <;> exact h) (ext_drew _ _) ?_
    simp only [opersAt, List.getElem?_toArray, List.getElem?_cons_zero, List.getElem?_cons_succ]
    repeat (go_big_quiet_step (fail))
    refine wpQuiet_nil ?_
    refine mixT_two (k := 15) (k' := 19) (by kernel_rfl) rfl rfl ?_ ?_
    · go_wp2_with (go_at_call 193; refine (ship_calls _ ok _ L.kit r.id r.ref (HL.out.kit.below (Below.refl _ _).drew) hl.kit hok).mono ?_; rintro e w1 ⟨y0, rfl, hpr, hb1⟩; obtain ⟨a0, n0, c0, rfl, -⟩ := Src.of hpr)
      have hbw : Below w0.heap.size w0 w1 := (Below.refl _ _).drew.trans hb1
      refine ⟨Or.inr (by intros; exact ⟨⟨_, hbw⟩, rfl⟩), ?_⟩
      have hzz := hbw.size
      have HPR := hide hpr
      have HBW := hide hbw
      have hov : ∀ b0 m0 d0, ones #[.slice b0 m0 d0] 1 = true := fun _ _ _  => rfl
      clear hpr hb1 hbw
      refine mixT_slots [16, 17, 18] (fuel := 3) rfl (by kernel_rfl) (by kernel_rfl) (fun d _ _ _ _ h => by cases d <;> exact h) ?_
      simp only [opersAt, List.getElem?_toArray, List.getElem?_cons_zero, List.getElem?_cons_succ]
      repeat (go_big_quiet_step (fail))
      refine wpQuiet_nil ?_
      refine mixT_one (k := 19) (by kernel_rfl) rfl ?_
      go_wp2
      refine ⟨Or.inr (by intros; exact ⟨⟨_, HBW.out.alloc hzz _⟩, rfl⟩), ?_⟩
      refine mixT_one (k := 20) (by kernel_rfl) rfl ?_
      go_wp2
      refine ⟨Or.inl (by kernel_rfl), ?_⟩
      refine mixT_one (k := 21) (by kernel_rfl) rfl ?_
      go_wp2
      refine ⟨Or.inr (fun h => h), ?_⟩
      refine mixT_nil (by kernel_rfl) ?_
      go_upto_region 4 with fail
      have HV := hide (HBW.out.alloc hzz (.cells #[.slice a0 n0 c0] 35))
      have hvb : (w1.alloc (.cells #[.slice a0 n0 c0] 35)).heap[w1.heap.size]? = some (.cells #[.slice a0 n0 c0] 35 (0, 0)) := heap_alloc_at _ _
      have HPV := hide (HPR.out.below ((Below.refl _ _).alloc (Nat.le_refl _) (.cells #[.slice a0 n0 c0] 35)))
      generalize hg : w1.heap.size = g at *
      generalize (World.alloc w1 _) = V at *
      have hrv : rng V g 0 1 = some #[.slice a0 n0 c0] := rng_whole hvb
      have hgv := blk_lt hvb
      clear hvb HBW HPR hg hzz q3 q4 g21 g25 g26
      refine wp_region_mixT (V.heap.size) [4] (by kernel_rfl) ?_
      refine mixT_slots [0, 1, 2, 3, 5] (fuel := 3) rfl (by kernel_rfl) (by kernel_rfl) (fun d _ _ _ _ h => by cases d <;> exact h) ?_
      simp only [opersAt, List.getElem?_toArray, List.getElem?_cons_zero, List.getElem?_cons_succ]
      repeat (go_big_quiet_step (fail))
      refine wpQuiet_nil ?_
      refine mixT_reads [4] (fuel := 2) rfl (by kernel_rfl) (by decide) (by kernel_rfl) (fun d _ _ _ _ h => by cases d <;> exact h) (ext_drew _ _) ?_
      simp only [opersAt, List.getElem?_toArray, List.getElem?_cons_zero, List.getElem?_cons_succ]
      repeat (go_big_quiet_step (fail))
      refine wpQuiet_nil ?_
      refine mixT_one (k := 6) (by kernel_rfl) rfl ?_
      go_wp2_with (go_at_call 305; refine (settleKt_calls _ D r lv s _ wv iss (HD.out.below HV.out.drew) _  _ (by intro v hv; simp only [List.mem_cons, List.not_mem_nil, or_false] at hv; subst hv; exact ⟨_, _, _, rfl⟩)).mono ?_; rintro e w3 ⟨rfl, hd3, ho3, -, hb3⟩)
      refine ⟨Or.inl (by kernel_rfl), ?_⟩
      refine mixT_one (k := 7) (by kernel_rfl) rfl ?_
      go_wp2
      refine ⟨Or.inr (fun h => h), ?_⟩
      refine mixT_nil (by kernel_rfl) ?_
      go_wp2
      go_ret
      (rw [HE.out]; exact (HPost.ofKt HL.out hokD HV.out.drew hDl (HPV.out.below (Below.refl _ _).drew) (ship_low L.kit r.id r.ref) hd3 ho3 hb3).after HBW0.out HDw.out)
    · go_wp2
      have hb0 : Below w0.heap.size w0 (w0.drew.alloc (.cells #[.slice none 0 0] 35)) := (Below.refl _ _).drew.alloc (Nat.le_refl _) _
      refine ⟨Or.inr (by intros; exact ⟨⟨_, hb0⟩, rfl⟩), ?_⟩
      have HB0 := hide hb0
      clear hb0
      refine mixT_one (k := 15) (by kernel_rfl) rfl ?_
      have hok' : ∀ b, (w0.drew.alloc (.cells #[.slice none 0 0] 35)).heap.size ≤ b → ok b ∧ b ≠ w0.heap.size := fun b hb => by
        have h9 : (w0.drew.alloc (.cells #[.slice none 0 0] 35)).heap.size = w0.heap.size + 1 := by simp
        exact ⟨hok b (by omega), by omega⟩
      have HLA := hide (HL.out.lt.mono (ok' := fun b => (ok b ∧ b ≠ w0.heap.size) ∧ b < w0.heap.size) (fun _ _ => rfl) (fun b hb => ⟨⟨hb.1, by have := hb.2; omega⟩, hb.2⟩))
      have HLB : Hid (LowAt (w0.drew.alloc (.cells #[.slice none 0 0] 35)) (fun b => ok b ∧ b ≠ w0.heap.size) ⟨p0, p1, p2, p3, k, s1, s2, s3⟩ L) := HLA.out.mono (fun b hb => HB0.out.block b hb.2) (fun _ hb => hb.1)
      go_wp2_with (go_at_call 193; refine (ship_calls _ (fun b => ok b ∧ b ≠ w0.heap.size) _ L.kit r.id r.ref HLB.out.kit hl.kit hok').mono ?_; rintro e w1 ⟨y0, rfl, hpr, hb1⟩; obtain ⟨a0, n0, c0, rfl, -⟩ := Src.of hpr)
      have hbw : Below w0.heap.size w0 w1 := HB0.out.trans (hb1.mono HB0.out.size)
      refine ⟨Or.inr (by intros; exact ⟨⟨_, hbw⟩, rfl⟩), ?_⟩
      have hzz := hbw.size
      have hgb : w1.heap[w0.heap.size]? = some (.cells #[.slice none 0 0] 35 (0, 0)) := (hb1.block _ (by simp)).trans (heap_alloc_at _ _)
      have hwg : whole w1 w0.heap.size 1 = true := whole_blk hgb
      have hgl := blk_lt hgb
      have HGB := hide hgb
      have HPR := hide hpr
      have HBW := hide hbw
      have hov : ∀ b0 m0 d0, ones #[.slice b0 m0 d0] 1 = true := fun _ _ _  => rfl
      clear hpr hb1 hbw hgb HB0 HLA HLB hok'
      refine mixT_slots [16, 17, 18] (fuel := 2) rfl (by kernel_rfl) (by kernel_rfl) (fun d _ _ _ _ h => by cases d <;> exact h) ?_
      simp only [opersAt, List.getElem?_toArray, List.getElem?_cons_zero, List.getElem?_cons_succ]
      repeat (go_big_quiet_step (fail))
      refine wpQuiet_nil ?_
      refine mixT_one (k := 20) (by kernel_rfl) rfl ?_
      go_wp2
      refine ⟨Or.inl (by kernel_rfl), ?_⟩
      refine mixT_one (k := 21) (by kernel_rfl) rfl ?_
      go_wp2
      refine ⟨Or.inr (fun h => h), ?_⟩
      refine mixT_nil (by kernel_rfl) ?_
      go_upto_region 4 with fail
      have HV : Hid (Below w0.heap.size w0 (w1.setRow w0.heap.size #[.slice a0 n0 c0])) := HBW.out.trans (below_setRow' _ _ (Nat.le_refl _))
      have hvb : (w1.setRow w0.heap.size #[.slice a0 n0 c0]).heap[w0.heap.size]? = some (.cells #[.slice a0 n0 c0] 35 (0, 0)) := heap_setRow_at HGB.out
      have HPV : Hid (RArr (w1.setRow w0.heap.size #[.slice a0 n0 c0]) ok 2 kitCs (.slice a0 n0 c0) _) := HPR.out.mono (fun _ hb => setRow_other _ _ _ _ hb.2) (fun _ hb => hb.1)
      generalize (World.setRow w1 _ _) = V at *
      have hrv : rng V w0.heap.size 0 1 = some #[.slice a0 n0 c0] := rng_whole hvb
      have hgv := blk_lt hvb
      clear hvb HBW HPR HGB hwg hgl hzz q3 q4 g21 g25 g26
      refine wp_region_mixT (V.heap.size) [4] (by kernel_rfl) ?_
      refine mixT_slots [0, 1, 2, 3, 5] (fuel := 3) rfl (by kernel_rfl) (by kernel_rfl) (fun d _ _ _ _ h => by cases d <;> exact h) ?_
      simp only [opersAt, List.getElem?_toArray, List.getElem?_cons_zero, List.getElem?_cons_succ]
      repeat (go_big_quiet_step (fail))
      refine wpQuiet_nil ?_
      refine mixT_reads [4] (fuel := 2) rfl (by kernel_rfl) (by decide) (by kernel_rfl) (fun d _ _ _ _ h => by cases d <;> exact h) (ext_drew _ _) ?_
      simp only [opersAt, List.getElem?_toArray, List.getElem?_cons_zero, List.getElem?_cons_succ]
      repeat (go_big_quiet_step (fail))
      refine wpQuiet_nil ?_
      refine mixT_one (k := 6) (by kernel_rfl) rfl ?_
      go_wp2_with (go_at_call 305; refine (settleKt_calls _ D r lv s _ wv iss (HD.out.below HV.out.drew) _  _ (by intro v hv; simp only [List.mem_cons, List.not_mem_nil, or_false] at hv; subst hv; exact ⟨_, _, _, rfl⟩)).mono ?_; rintro e w3 ⟨rfl, hd3, ho3, -, hb3⟩)
      refine ⟨Or.inl (by kernel_rfl), ?_⟩
      refine mixT_one (k := 7) (by kernel_rfl) rfl ?_
      go_wp2
      refine ⟨Or.inr (fun h => h), ?_⟩
      refine mixT_nil (by kernel_rfl) ?_
      go_wp2
      go_ret
      (rw [HE.out]; exact (HPost.ofKt HL.out hokD HV.out.drew hDl (HPV.out.below (Below.refl _ _).drew) (ship_low L.kit r.id r.ref) hd3 ho3 hb3).after HBW0.out HDw.out)

end Go.Proofs.Qxb6500666aGreatDoor
