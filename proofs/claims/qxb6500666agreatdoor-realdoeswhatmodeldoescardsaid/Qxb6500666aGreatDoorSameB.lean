/- sameBeneath, where both sides read alike. -/
import Derived.Test.Qxb6500666aGreatDoorSameL
import Derived.Test.Qxb6500666aGreatDoorSameP
import Derived.Test.Qxb6500666aGreatDoorDraft
namespace Go.Proofs.Qxb6500666aGreatDoor
open Go.RowKit

theorem sv_form (s : SV) : ∃ a n c, sv s = .slice a n c := ⟨_, _, _, rfl⟩
attribute [local go_sem ↓] exec_ldVsn exec_stVsn
attribute [local go_sem] run_ldVsn run_stVsn ones_vz whole_alloc_lt whole_alloc_at whole_drew setRow_alloc_at setRow_alloc_lt rng_alloc_lt rng_alloc_at rng_drew rng_drewN setRow_drew whole_setRow_other rng_setRow_other

set_option maxRecDepth 100000 in
set_option maxHeartbeats 8000000 in
theorem sameBeneath_calls (w : World) (ok ok' : Nat → Prop) (x y : LV) (L : Low) (h : LowAt w ok x L) (h' : LowAt w ok' y L) :
    Calls Tryz.prog 25 #[.agg (lvCs x), .agg (lvCs y)] w fun e w' => e = .returned (.bool true) ∧ Below w.heap.size w w' := by
  have HL := hide (fun W (hb : Below w.heap.size w W) => h.below hb)
  have HL' := hide (fun W (hb : Below w.heap.size w W) => h'.below hb)
  obtain ⟨zs, hz, hzm, hzu⟩ := h.pr.v
  obtain ⟨ys, hy, hym, hyu⟩ := h'.pr.v
  obtain ⟨a, cap, b, off, hv, hl, hm, hr, ha, hc⟩ := hz.lt
  obtain ⟨a', cap', b', off', hv', hl', hm', hr', ha', hc'⟩ := hy.lt
  have hlen : zs.length = ys.length := by have := congrArg List.length (hzm.trans hym.symm); simpa using this
  obtain ⟨n, hn⟩ : ∃ n, n = zs.length := ⟨_, rfl⟩
  have hn' : n = ys.length := hn.trans hlen
  have HE : Hid (∀ k (h1 : k < zs.length) (h2 : k < ys.length), zs[k].eff = ys[k].eff ∧ zs[k].vis = ys[k].vis) := fun k h1 h2 => by
    have := congrArg (fun l : List Vsn => l[k]?) (hzm.trans hym.symm)
    simp [h1, h2] at this
    exact this
  rw [← hn] at hv hl hr ha
  rw [← hn'] at hv' hl' hr' ha'
  have Hn : Hid (n = zs.length) := hn
  have Hn' : Hid (n = ys.length) := hn'
  have hi := run_indexAt_arr (P := Tryz.prog) (cap := cap) Tryz.underlying28 Tryz.size193 (fun h => (ha h).1)
  have hi' := run_indexAt_arr (P := Tryz.prog) (cap := cap') Tryz.underlying28 Tryz.size193 (fun h => (ha' h).1)
  have HB : Hid (0 < n → b < w.heap.size) := fun h => (ha h).2.2
  have HB' : Hid (0 < n → b' < w.heap.size) := fun h => (ha' h).2.2
  have HC := hide hc
  have HC' := hide hc'
  have HZ := hide hzu
  have HY := hide hyu
  obtain ⟨p0, p1, p2, p3, kk, s1, s2, s3⟩ := x
  obtain ⟨r0, r1, r2, r3, jj, t1, t2, t3⟩ := y
  dsimp only at hv hv' HL HL'
  subst hv
  subst hv'
  have hb0 : Below w.heap.size w ((w.alloc (.cells (lvCs ⟨p0, .slice a n cap, p2, p3, kk, s1, s2, s3⟩) 83)).alloc (.cells (lvCs ⟨r0, .slice a' n cap', r2, r3, jj, t1, t2, t3⟩) 83)) := ((Below.refl _ _).alloc (Nat.le_refl _) _).alloc (by simp) _
  have e0 : ((w.alloc (.cells (lvCs ⟨p0, .slice a n cap, p2, p3, kk, s1, s2, s3⟩) 83)).alloc (.cells (lvCs ⟨r0, .slice a' n cap', r2, r3, jj, t1, t2, t3⟩) 83)).heap[w.heap.size]? = some (.cells (lvCs ⟨p0, .slice a n cap, p2, p3, kk, s1, s2, s3⟩) 83 (0, 0)) := (Below.heap_alloc _ _ _ (by simp)).trans (heap_alloc_at _ _)
  have e1 : ((w.alloc (.cells (lvCs ⟨p0, .slice a n cap, p2, p3, kk, s1, s2, s3⟩) 83)).alloc (.cells (lvCs ⟨r0, .slice a' n cap', r2, r3, jj, t1, t2, t3⟩) 83)).heap[w.heap.size + 1]? = some (.cells (lvCs ⟨r0, .slice a' n cap', r2, r3, jj, t1, t2, t3⟩) 83 (0, 0)) := box2 w _ _ _ _
  have hbn : ((n : Int) != (n : Int)) = false := by simp
  clear h h' hz hzm hzu hy hym hyu ha hc ha' hc' hn hn' hlen hm hm' hl hl'
  go_enter Tryz.func25, Tryz.ntmps25
  go_upto_region 1 with fail
  change Code.wp _ _ _ _ ((w.alloc (.cells (lvCs ⟨p0, .slice a n cap, p2, p3, kk, s1, s2, s3⟩) 83)).alloc (.cells (lvCs ⟨r0, .slice a' n cap', r2, r3, jj, t1, t2, t3⟩) 83))
  generalize ((w.alloc (.cells (lvCs ⟨p0, .slice a n cap, p2, p3, kk, s1, s2, s3⟩) 83)).alloc (.cells (lvCs ⟨r0, .slice a' n cap', r2, r3, jj, t1, t2, t3⟩) 83)) = W0 at *
  have HB0 := hide hb0
  have E0 := hide e0
  have E1 := hide e1
  have z0 := blk_lt e0
  have z1 := blk_lt e1
  have q1 := cells_all e0 1
  have q2 := cells_all e1 1
  simp only [lvCs, List.getElem?_toArray, List.getElem?_cons_zero, List.getElem?_cons_succ] at q1 q2
  clear hb0 e0 e1
  go_upto_region 4 with fail
  clear q1 q2
  go_loopw [21] (fun i wr => ∃ k : Nat, k ≤ n ∧ i = .int .i64 k ∧ Hid (Below W0.heap.size W0 wr)) (fun i _ => n - (intOf i).toNat)
  case atStart => exact ⟨0, by omega, rfl, Below.refl _ _⟩
  case round =>
    obtain ⟨k, hk, rfl, HW⟩ := hrel
    have hzw := HW.out.size
    by_cases hlt : k < n
    · have h1 : k < zs.length := by rw [← Hn.out]; exact hlt
      have h2 : k < ys.length := by rw [← Hn'.out]; exact hlt
      have q1 := cells_all ((HW.out.block _ z0).trans E0.out) 1
      have q2 := cells_all ((HW.out.block _ z1).trans E1.out) 1
      simp only [lvCs, List.getElem?_toArray, List.getElem?_cons_zero, List.getElem?_cons_succ] at q1 q2
      have hz0 := HB0.out.size
      have hbb := HB.out (by omega)
      have hbb' := HB'.out (by omega)
      have HBW : Hid (Below w.heap.size w wr) := HB0.out.trans (HW.out.mono hz0)
      have c0 : rng wr b (off + k * 2) 2 = some (vzCs zs[k]) := (rng_of_block (HBW.out.block b hbb) _ _).trans (HC.out k h1)
      have d0 : rng wr b' (off' + k * 2) 2 = some (vzCs ys[k]) := (rng_of_block (HBW.out.block b' hbb') _ _).trans (HC'.out k h2)
      obtain ⟨f1, f2⟩ := HE.out k h1 h2
      have HU : Hid (∀ W, Below w.heap.size w W → U32sAt W ok (sv zs[k].s) zs[k].vis) := fun W hW => (HZ.out _ (List.getElem_mem _)).below hW
      have HU' : Hid (∀ W, Below w.heap.size w W → U32sAt W ok' (sv ys[k].s) zs[k].vis) := fun W hW => by rw [f2]; exact (HY.out _ (List.getElem_mem _)).below hW
      unfold vzCs at c0 d0
      rw [← f1] at d0
      generalize zs[k].eff = ef at *
      generalize zs[k].vis = vi at *
      obtain ⟨x1, n1, m1, g1⟩ := sv_form zs[k].s
      obtain ⟨x2, n2, m2, g2⟩ := sv_form ys[k].s
      rw [g1] at c0 HU
      rw [g2] at d0 HU'
      have hbw : b < wr.heap.size := by omega
      have hbw' : b' < wr.heap.size := by omega
      have y0 : w.heap.size < wr.heap.size := by omega
      have y1 : w.heap.size + 1 < wr.heap.size := by omega
      clear f1 f2 g1 g2 hbb hbb'
      have hef : (ef != ef) = false := by simp
      go_upto_region 6 with fail
      go_region
      all_goals
        have HB1 : Hid (∀ u v, Below W0.heap.size W0 (((wr.alloc (.cells u 193)).alloc (.cells v 193)))) := fun u v => (HW.out.alloc hzw _).alloc (by simp; omega) _
        go_upto_region 9 with (go_at_call 88; refine (sameU32_calls _ ok ok' _ _ vi (HU.out _ (HB0.out.trans ((HB1.out _ _).drew.mono hz0))) (HU'.out _ (HB0.out.trans ((HB1.out _ _).drew.mono hz0)))).mono ?_; rintro e w1 ⟨rfl, q, rfl⟩)
        go_wp2
        go_roundw
        case measure => simp [intOf]; omega
        case rel => exact ⟨k + 1, by omega, by go_num, below_drewN (HB1.out _ _) _⟩
    · have f1 := (HW.out.block _ z0).trans E0.out
      have f2 := (HW.out.block _ z1).trans E1.out
      have y0 : w.heap.size < wr.heap.size := by omega
      have y1 : w.heap.size + 1 < wr.heap.size := by omega
      have q0 := cells_all f1 0
      have q2 := cells_all f1 2
      have q3 := cells_all f1 3
      have q4 := cells_all f1 4
      have q5 := cells_all f1 5
      have q6 := cells_all f1 6
      have q7 := cells_all f1 7
      have v0 := cells_all f2 0
      have v2 := cells_all f2 2
      have v3 := cells_all f2 3
      have v4 := cells_all f2 4
      have v5 := cells_all f2 5
      have v6 := cells_all f2 6
      have v7 := cells_all f2 7
      simp only [lvCs, List.getElem?_toArray, List.getElem?_cons_zero, List.getElem?_cons_succ] at q0 q2 q3 q4 q5 q6 q7 v0 v2 v3 v4 v5 v6 v7
      have HBW : Hid (Below w.heap.size w wr) := HB0.out.trans (HW.out.mono HB0.out.size)
      clear f1 f2
      go_wp2_with (first
        | (go_at_call 89; refine (sameAna_calls _ ok ok' _ _ L.pr.ana (HL.out _ HBW.out).pr.a (HL'.out _ HBW.out).pr.a).mono ?_; rintro e w1 ⟨rfl, m1, rfl⟩)
        | (go_at_call 88; refine (sameU32_calls _ ok ok' _ _ L.pr.site (HL.out _ (below_drewN HBW.out _)).pr.s (HL'.out _ (below_drewN HBW.out _)).pr.s).mono ?_; rintro e w1 ⟨rfl, m2, rfl⟩)
        | (go_at_call 90; refine (sameSbj_calls _ ok ok' _ _ L.pr.sub (HL.out _ (below_drewN HBW.out _)).pr.u (HL'.out _ (below_drewN HBW.out _)).pr.u).mono ?_; rintro e w1 ⟨rfl, m3, rfl⟩)
        | (go_at_call 91; refine (sameKit_calls _ ok ok' _ _ L.kit (HL.out _ (below_drewN HBW.out _)).kit (HL'.out _ (below_drewN HBW.out _)).kit).mono ?_; rintro e w1 ⟨rfl, m4, rfl⟩)
        | (go_at_call 92; refine (sameSmp_calls _ ok ok' _ _ L.sm.ss (HL.out _ (below_drewN HBW.out _)).sm.a (HL'.out _ (below_drewN HBW.out _)).sm.a).mono ?_; rintro e w1 ⟨rfl, m5, rfl⟩)
        | (go_at_call 93; refine (sameRes_calls _ ok ok' _ _ L.sm.rs (HL.out _ (below_drewN HBW.out _)).sm.b (HL'.out _ (below_drewN HBW.out _)).sm.b).mono ?_; rintro e w1 ⟨rfl, m6, rfl⟩)
        | (go_at_call 94; refine (sameQry_calls _ ok ok' _ _ L.sm.qs (HL.out _ (below_drewN HBW.out _)).sm.c (HL'.out _ (below_drewN HBW.out _)).sm.c).mono ?_; rintro e w1 ⟨rfl, m7, rfl⟩))
      go_ret
      exact ⟨rfl, below_drewN HBW.out _⟩

end Go.Proofs.Qxb6500666aGreatDoor
