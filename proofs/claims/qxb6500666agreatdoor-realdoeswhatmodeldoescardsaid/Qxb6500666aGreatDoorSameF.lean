/- sameEntry, sameTrail, where both sides read alike. -/
import Derived.Test.Qxb6500666aGreatDoorSameE
import Derived.Test.Qxb6500666aGreatDoorTrail
namespace Go.Proofs.Qxb6500666aGreatDoor
open Go.RowKit
attribute [local go_sem] ext_const Ext.cell Ext.frozen Ext.rng Ext.whole
attribute [local go_sem ↓] exec_ldReq exec_stReq exec_ldEnt exec_stEnt
attribute [local go_sem] run_ldReq run_stReq run_ldEnt run_stEnt reqA_size entA_size whole_alloc_lt whole_alloc_at whole_drew setRow_alloc_at setRow_alloc_lt rng_alloc_lt rng_alloc_at rng_drew rng_drewN

set_option maxRecDepth 100000 in
set_option maxHeartbeats 4000000 in
theorem sameEntry_calls (w : World) (ok ok' : Nat → Prop) (x : Ent) (lv lv' : Value) (h : RArr w ok 1 u32Cs lv x.req.list) (h' : RArr w ok' 1 u32Cs lv' x.req.list) :
    Calls Tryz.prog 36 #[.agg (entA x lv), .agg (entA x lv')] w fun e w' => e = .returned (.bool true) ∧ Below w.heap.size w w' := by
  have HL := hide (fun W (hb : Below w.heap.size w W) => h.below hb)
  have HL' := hide (fun W (hb : Below w.heap.size w W) => h'.below hb)
  have hb0 : Below w.heap.size w ((w.alloc (.cells (entA x lv) 67)).alloc (.cells (entA x lv') 67)) := ((Below.refl _ _).alloc (Nat.le_refl _) _).alloc (by simp) _
  have e0 : ((w.alloc (.cells (entA x lv) 67)).alloc (.cells (entA x lv') 67)).heap[w.heap.size]? = some (.cells (entA x lv) 67 (0, 0)) := (Below.heap_alloc _ _ _ (by simp)).trans (heap_alloc_at _ _)
  have e1 : ((w.alloc (.cells (entA x lv) 67)).alloc (.cells (entA x lv') 67)).heap[w.heap.size + 1]? = some (.cells (entA x lv') 67 (0, 0)) := box2 w _ _ _ _
  clear h h'
  go_enter Tryz.func36, Tryz.ntmps36
  go_upto_region 1 with fail
  change Code.wp _ _ _ _ ((w.alloc (.cells (entA x lv) 67)).alloc (.cells (entA x lv') 67))
  generalize ((w.alloc (.cells (entA x lv) 67)).alloc (.cells (entA x lv') 67)) = W0 at *
  have HB0 := hide hb0
  have r0 : rng W0 w.heap.size 3 17 = some (reqA x.req lv) := by unfold rng; rw [e0]; rfl
  have r1 : rng W0 (w.heap.size + 1) 3 17 = some (reqA x.req lv') := by unfold rng; rw [e1]; rfl
  have c0 := cells_all e0 0
  have c1 := cells_all e0 1
  have c2 := cells_all e0 2
  have d0 := cells_all e1 0
  have d1 := cells_all e1 1
  have d2 := cells_all e1 2
  simp only [entA, List.getElem?_toArray, List.getElem?_cons_zero, List.getElem?_cons_succ] at c0 c1 c2 d0 d1 d2
  clear hb0 e0 e1
  go_wp2_with (go_at_call 115; refine (sameRequest_calls _ ok ok' x.req lv lv' (HL.out _ HB0.out) (HL'.out _ HB0.out)).mono ?_; rintro e W1 ⟨rfl, hb1⟩)
  go_ret
  exact ⟨rfl, HB0.out.trans (hb1.mono HB0.out.size)⟩

set_option maxRecDepth 100000 in
set_option maxHeartbeats 4000000 in
theorem sameTrail_calls (w : World) (o1 o2 ok ok' : Nat → Prop) (v v' : Value) (zs ys : List ZE) (h : RArr w o1 20 zeCs v zs) (h' : RArr w o2 20 zeCs v' ys) (hz : ZipE w ok zs) (hy : ZipE w ok' ys) (he : zs.map (·.1) = ys.map (·.1)) :
    Calls Tryz.prog 38 #[v, v'] w fun e w' => e = .returned (.bool true) ∧ Below w.heap.size w w' := by
  obtain ⟨a, cap, b, off, rfl, hl, hm, hr, ha, hc⟩ := h.lt
  obtain ⟨a', cap', b', off', rfl, hl', hm', hr', ha', hc'⟩ := h'.lt
  have hlen : zs.length = ys.length := by have := congrArg List.length he; simpa using this
  obtain ⟨n, hn⟩ : ∃ n, n = zs.length := ⟨_, rfl⟩
  have hn' : n = ys.length := hn.trans hlen
  have HE : Hid (∀ k (h1 : k < zs.length) (h2 : k < ys.length), zs[k].1 = ys[k].1) := fun k h1 h2 => by
    have := congrArg (fun l : List Ent => l[k]?) he
    simpa [h1, h2] using this
  have Hn : Hid (n = zs.length) := hn
  have Hn' : Hid (n = ys.length) := hn'
  rw [← hn] at hl hr ha ⊢
  rw [← hn'] at hl' hr' ha' ⊢
  have hi := run_indexAt_arr (P := Tryz.prog) (cap := cap) Tryz.underlying42 Tryz.size67_z (fun h => (ha h).1)
  have hi' := run_indexAt_arr (P := Tryz.prog) (cap := cap') Tryz.underlying42 Tryz.size67_z (fun h => (ha' h).1)
  have HB : Hid (0 < n → b < w.heap.size ∧ b' < w.heap.size) := fun h => ⟨(ha h).2.2, (ha' h).2.2⟩
  have HC := hide hc
  have HC' := hide hc'
  have HZ := hide hz
  have HY := hide hy
  have hbn : ((n : Int) != (n : Int)) = false := by simp
  clear ha hc ha' hc' hn hn' hlen hm hm' hl hl' h h' hz hy he
  go_enter Tryz.func38, Tryz.ntmps38
  go_wp2
  go_loopg [13] n (fun g i wr => ∃ k : Nat, k ≤ n ∧ g = n - k ∧ i = .int .i64 k ∧ Hid (Below w.heap.size w wr))
  case atStart => exact ⟨0, by omega, by omega, rfl, Below.refl _ _⟩
  case round =>
    obtain ⟨k, hk, rfl, rfl, HW⟩ := hrel
    by_cases hlt : k < n
    · have h1 : k < zs.length := by rw [← Hn.out]; exact hlt
      have h2 : k < ys.length := by rw [← Hn'.out]; exact hlt
      obtain ⟨hbb, hbb'⟩ := HB.out (by omega)
      have hzw := HW.out.size
      have c0 : rng wr b (off + k * 20) 20 = some (zeCs zs[k]) := (rng_of_block (HW.out.block b hbb) _ _).trans (HC.out k h1)
      have d0 : rng wr b' (off' + k * 20) 20 = some (zeCs ys[k]) := (rng_of_block (HW.out.block b' hbb') _ _).trans (HC'.out k h2)
      have f1 := HE.out k h1 h2
      unfold zeCs at c0 d0
      have HS : Hid (∀ W, Below w.heap.size w W → Calls Tryz.prog 36 #[.agg (entA zs[k].1 (sv zs[k].2)), .agg (entA ys[k].1 (sv ys[k].2))] W fun e w' => e = .returned (.bool true) ∧ Below W.heap.size W w') := fun W hW => by
        have q1 := (HZ.out _ (List.getElem_mem h1)).below hW
        have q2 := (HY.out _ (List.getElem_mem h2)).below hW
        rw [← f1] at q2 ⊢
        exact sameEntry_calls W _ _ _ _ _ q1 q2
      generalize entA zs[k].1 (sv zs[k].2) = E1 at *
      generalize entA ys[k].1 (sv ys[k].2) = E2 at *
      have hbw : b < wr.heap.size := by omega
      have hbw' : b' < wr.heap.size := by omega
      clear f1
      go_upto_region 6 with fail
      refine wp_region_mixT (wr.heap.size) [3, 7] (by kernel_rfl) ?_
      refine mixT_slots [0, 1, 2, 4, 5, 6] (fuel := 4) rfl (by kernel_rfl) (by kernel_rfl) (fun d _ _ _ _ h => by cases d <;> exact h) ?_
      simp only [opersAt, List.getElem?_toArray, List.getElem?_cons_zero, List.getElem?_cons_succ]
      repeat (go_big_quiet_step (fail))
      refine wpQuiet_nil ?_
      refine mixT_reads [3, 7] (fuel := 2) rfl (by kernel_rfl) (by decide) (by kernel_rfl) (fun d _ _ _ _ h => by cases d <;> exact h) (ext_drew _ _) ?_
      simp only [opersAt, List.getElem?_toArray, List.getElem?_cons_zero, List.getElem?_cons_succ]
      repeat (go_big_quiet_step (fail))
      refine wpQuiet_nil ?_
      refine mixT_one (k := 8) (by kernel_rfl) rfl ?_
      go_wp2_with (go_at_call 36; refine (HS.out _ HW.out.drew).mono ?_; rintro e W1 ⟨rfl, hb1⟩)
      have hb2 : Below wr.heap.size wr W1 := (Below.refl _ _).drew.trans hb1
      refine ⟨Or.inr (by intros; exact ⟨⟨_, hb2⟩, rfl⟩), ?_⟩
      refine mixT_slots [9] (fuel := 0) rfl (by kernel_rfl) (by kernel_rfl) (fun d _ _ _ _ h => by cases d <;> exact h) ?_
      simp only [opersAt, List.getElem?_toArray, List.getElem?_cons_zero, List.getElem?_cons_succ]
      repeat (go_big_quiet_step (fail))
      refine wpQuiet_nil ?_
      refine mixT_nil (by kernel_rfl) ?_
      go_wp2
      go_roundg (n - (k + 1))
      case measure => omega
      case rel => exact ⟨k + 1, by omega, rfl, by go_num, HW.out.trans (hb2.mono hzw)⟩
    · have HBW := HW
      go_wp2
      go_ret
      exact ⟨rfl, HBW.out⟩

end Go.Proofs.Qxb6500666aGreatDoor
