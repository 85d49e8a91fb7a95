/- The model's RowOf. -/
import Derived.Test.Qxb6500666aGreatDoorMdS
import Derived.Test.Qxb6500666aGreatDoorAssess
namespace Go.Proofs.Qxb6500666aGreatDoor
open Go.RowKit
/-- The row that releases a result, as the model has it. -/
def rowM (L : Low) (s : Smp) (r : Res) : Row := ⟨r.sample, r.analyte, r.version, r.value, s.subject, siteV L.pr.sub s.subject, s.visit, inForce L.pr.ver s.collected, s.kit, s.cls, s.collected, s.received, r.tested⟩
attribute [local go_sem] ext_const Ext.cell Ext.frozen Ext.rng Ext.whole
attribute [local go_sem ↓] exec_ldPrS exec_ldRow exec_stRow exec_bdRow
attribute [local go_sem] run_ldPrS run_ldRow run_stRow run_bdRow rowCs_size rowCs_ones rowCs_all whole_alloc_lt whole_alloc_at whole_drew setRow_alloc_at setRow_alloc_lt setRow_drew rng_alloc_lt rng_alloc_at rng_drew rng_drewN

set_option maxRecDepth 100000 in
set_option maxHeartbeats 8000000 in
theorem mRowOf_calls (w : World) (M : Nat) (ok : Nat → Prop) (x : LV) (L : Low) (s : Smp) (r : Res) (hL : LBlk w M 0 x) (hlow : LowAt w ok x L) (hver : L.pr.ver.length ≤ 1000000) :
    Calls Tryz.prog 44 #[.pointer (some ⟨M, 0, none⟩), .agg (smpCs s), .agg (resCs r)] w fun e w' => e = .returned (.agg (rowCs (rowM L s r))) ∧ Below w.heap.size w w' := by
  obtain ⟨R, hR⟩ : ∃ R, R = rowM L s r := ⟨_, rfl⟩
  rw [← hR]
  obtain ⟨st, hst⟩ : ∃ st, st = siteV L.pr.sub s.subject := ⟨_, rfl⟩
  obtain ⟨fo, hfo⟩ : ∃ fo, fo = inForce L.pr.ver s.collected := ⟨_, rfl⟩
  obtain ⟨en, hen⟩ : ∃ en, en = (sbjGet L.pr.sub s.subject).isSome := ⟨_, rfl⟩
  have HR : Hid (R = ⟨r.sample, r.analyte, r.version, r.value, s.subject, st, s.visit, fo, s.kit, s.cls, s.collected, s.received, r.tested⟩) := hR.trans (by rw [rowM, ← hst, ← hfo])
  have HST := hide hst
  have HFO := hide hfo
  have HEN := hide hen
  have HLB := hide hL
  have HLOW := hide hlow
  have zM := hL.lt
  clear hR hst hfo hen hL hlow
  obtain ⟨p0, p1, p2, p3, k, s1, s2, s3⟩ := x
  go_enter Tryz.func44, Tryz.ntmps44
  go_upto_region 1 with fail
  have hb1 : Below w.heap.size w (((w.alloc (.cells (smpCs s) 94)).alloc (.cells (resCs r) 92)).alloc (.cells #[.int .u32 0, .int .u32 0, .int .u32 0, .int .i64 0, .int .u32 0, .int .u32 0, .int .u32 0, .int .u32 0, .int .u32 0, .int .u8 0, .int .i64 0, .int .i64 0, .int .i64 0] 109)) := (((Below.refl _ _).alloc (Nat.le_refl _) _).alloc (by simp) _).alloc (by simp; omega) _
  have hk0 : (((w.alloc (.cells (smpCs s) 94)).alloc (.cells (resCs r) 92)).alloc (.cells #[.int .u32 0, .int .u32 0, .int .u32 0, .int .i64 0, .int .u32 0, .int .u32 0, .int .u32 0, .int .u32 0, .int .u32 0, .int .u8 0, .int .i64 0, .int .i64 0, .int .i64 0] 109)).heap[w.heap.size]? = some (.cells (smpCs s) 94 (0, 0)) := (Below.heap_alloc _ _ _ (by simp; omega)).trans ((Below.heap_alloc _ _ _ (by simp)).trans (heap_alloc_at _ _))
  have hk1 : (((w.alloc (.cells (smpCs s) 94)).alloc (.cells (resCs r) 92)).alloc (.cells #[.int .u32 0, .int .u32 0, .int .u32 0, .int .i64 0, .int .u32 0, .int .u32 0, .int .u32 0, .int .u32 0, .int .u32 0, .int .u8 0, .int .i64 0, .int .i64 0, .int .i64 0] 109)).heap[w.heap.size + 1]? = some (.cells (resCs r) 92 (0, 0)) := (Below.heap_alloc _ _ _ (by simp)).trans (box2 w _ _ _ _)
  have hk2 : (((w.alloc (.cells (smpCs s) 94)).alloc (.cells (resCs r) 92)).alloc (.cells #[.int .u32 0, .int .u32 0, .int .u32 0, .int .i64 0, .int .u32 0, .int .u32 0, .int .u32 0, .int .u32 0, .int .u32 0, .int .u8 0, .int .i64 0, .int .i64 0, .int .i64 0] 109)).heap[w.heap.size + 2]? = some (.cells (rowCs zeroRow) 109 (0, 0)) := by
    have := heap_alloc_at ((w.alloc (.cells (smpCs s) 94)).alloc (.cells (resCs r) 92)) (.cells #[.int .u32 0, .int .u32 0, .int .u32 0, .int .i64 0, .int .u32 0, .int .u32 0, .int .u32 0, .int .u32 0, .int .u32 0, .int .u8 0, .int .i64 0, .int .i64 0, .int .i64 0] 109)
    have e : ((w.alloc (.cells (smpCs s) 94)).alloc (.cells (resCs r) 92)).heap.size = w.heap.size + 2 := by simp
    rw [e] at this
    exact this
  generalize ((w.alloc (.cells (smpCs s) 94)).alloc (.cells (resCs r) 92)).alloc (.cells #[.int .u32 0, .int .u32 0, .int .u32 0, .int .i64 0, .int .u32 0, .int .u32 0, .int .u32 0, .int .u32 0, .int .u32 0, .int .u8 0, .int .i64 0, .int .i64 0, .int .i64 0] 109) = W1 at *
  have HB1 := hide hb1
  have HK0 := hide hk0
  have HK1 := hide hk1
  have HK2 := hide hk2
  have z2 := blk_lt hk2
  obtain ⟨G, hG⟩ : ∃ G, w.heap.size = G := ⟨_, rfl⟩
  rw [hG] at HK0 HK1 HK2 HB1 z2 zM ⊢
  have HG := hide hG
  clear hb1 hk0 hk1 hk2 hG
  have HFA : Hid (∀ V, Below W1.heap.size W1 V → LBlk V M 0 ⟨p0, p1, p2, p3, k, s1, s2, s3⟩ ∧ LowAt V ok ⟨p0, p1, p2, p3, k, s1, s2, s3⟩ L ∧ V.heap[G]? = some (.cells (smpCs s) 94 (0, 0)) ∧ V.heap[G + 1]? = some (.cells (resCs r) 92 (0, 0)) ∧ V.heap[G + 2]? = some (.cells (rowCs zeroRow) 109 (0, 0)) ∧ Below G w V) := fun V hV => by
    have hw : Below G w V := HB1.out.trans (hV.mono (by omega))
    have hw2 : Below w.heap.size w V := by rw [HG.out]; exact hw
    exact ⟨HLB.out.below hw2 HLB.out.lt, HLOW.out.below hw2, (hV.block _ (by omega)).trans HK0.out, (hV.block _ (by omega)).trans HK1.out, (hV.block _ z2).trans HK2.out, hw⟩
  go_cut [7] (fun sv W => sv = .int .u32 st ∧ Hid (Below W1.heap.size W1 W))
  case first =>
    as_aux_lemma =>
      obtain ⟨f1, f2, f3, f4, f5, f6⟩ := HFA.out W1 (Below.refl _ _)
      have g0 : rng W1 M 0 4 = some #[p0, p1, p2, p3] := f1.pr
      have zM1 := f1.lt
      have c2 : W1.cell? ⟨G, 2, none⟩ = some (.int .u32 s.subject) := cells_all f3 2
      have zG := blk_lt f3
      have HLW := hide f2
      clear f1 f2 f3 f4 f5 f6
      refine wp_region_mixT (W1.heap.size) [3, 5] (by kernel_rfl) ?_
      refine mixT_slots [0, 1, 2, 4] (fuel := 8) rfl (by kernel_rfl) (by kernel_rfl) (fun d _ _ _ _ h => by cases d <;> exact h) ?_
      simp only [opersAt, List.getElem?_toArray, List.getElem?_cons_zero, List.getElem?_cons_succ]
      repeat (go_big_quiet_step (fail))
      refine wpQuiet_nil ?_
      refine mixT_reads [3, 5] (fuel := 6) rfl (by kernel_rfl) (by decide) (by kernel_rfl) (fun d _ _ _ _ h => by cases d <;> exact h) (ext_drew _ _) ?_
      simp only [opersAt, List.getElem?_toArray, List.getElem?_cons_zero, List.getElem?_cons_succ]
      repeat (go_big_quiet_step (fail))
      refine wpQuiet_nil ?_
      refine mixT_one (k := 6) (by kernel_rfl) rfl ?_
      go_wp2_with (go_at_call 96; refine (siteOf_calls _ ok _ _ _ _ L.pr.sub s.subject (HLW.out.pr.below (Below.refl _ _).drew).u).mono ?_; rintro e V1 ⟨rfl, hb1⟩; rw [siteOf_get, ← HST.out, ← HEN.out])
      have HC1 : Hid (Below W1.heap.size W1 V1) := (Below.refl _ _).drew.trans hb1
      refine ⟨Or.inr (by intros; exact ⟨⟨_, HC1.out⟩, rfl⟩), ?_⟩
      clear hb1
      refine mixT_slots [7, 8, 9] (fuel := 2) rfl (by kernel_rfl) (by kernel_rfl) (fun d _ _ _ _ h => by cases d <;> exact h) ?_
      simp only [opersAt, List.getElem?_toArray, List.getElem?_cons_zero, List.getElem?_cons_succ]
      repeat (go_big_quiet_step (fail))
      refine wpQuiet_nil ?_
      refine mixT_one (k := 10) (by kernel_rfl) rfl ?_
      go_wp2
      refine ⟨Or.inr (fun h => h), ?_⟩
      refine mixT_one (k := 11) (by kernel_rfl) rfl ?_
      go_wp2
      refine ⟨Or.inr (fun h => h), ?_⟩
      refine mixT_nil (by kernel_rfl) ?_
      go_wp2
      go_meet
      case rel => exact ⟨rfl, HC1⟩
  case rest =>
  obtain ⟨rfl, HBc⟩ := hcut
  obtain ⟨f1, f2, f3, f4, f5, f6⟩ := HFA.out wc HBc.out
  generalize wc = W2 at *
  have g0 : rng W2 M 0 4 = some #[p0, p1, p2, p3] := f1.pr
  have zM1 := f1.lt
  have c1 : W2.cell? ⟨G, 1, none⟩ = some (.int .u32 s.kit) := cells_all f3 1
  have c2 : W2.cell? ⟨G, 2, none⟩ = some (.int .u32 s.subject) := cells_all f3 2
  have c3 : W2.cell? ⟨G, 3, none⟩ = some (.int .u32 s.visit) := cells_all f3 3
  have c4 : W2.cell? ⟨G, 4, none⟩ = some (.int .u8 s.cls) := cells_all f3 4
  have c5 : W2.cell? ⟨G, 5, none⟩ = some (.int .i64 s.collected) := cells_all f3 5
  have c6 : W2.cell? ⟨G, 6, none⟩ = some (.int .i64 s.received) := cells_all f3 6
  have e0 : W2.cell? ⟨G + 1, 0, none⟩ = some (.int .u32 r.sample) := cells_all f4 0
  have e1 : W2.cell? ⟨G + 1, 1, none⟩ = some (.int .u32 r.analyte) := cells_all f4 1
  have e2 : W2.cell? ⟨G + 1, 2, none⟩ = some (.int .u32 r.version) := cells_all f4 2
  have e3 : W2.cell? ⟨G + 1, 3, none⟩ = some (.int .i64 r.value) := cells_all f4 3
  have e4 : W2.cell? ⟨G + 1, 4, none⟩ = some (.int .i64 r.tested) := cells_all f4 4
  have zG := blk_lt f3
  have zG1 := blk_lt f4
  have HLW := hide f2
  have HKZ := hide f5
  clear f1 f2 f3 f4 f5 f6
  go_upto_region 2 with fail
  refine wp_region_mixT (W2.heap.size) [1, 3, 5, 7, 9, 12, 16, 18, 21, 23, 25, 27, 29] (by kernel_rfl) ?_
  refine mixT_slots [0, 2, 4, 6, 8, 10, 11, 13, 14, 15, 17, 20, 22, 24, 26, 28] (fuel := 16) rfl (by kernel_rfl) (by kernel_rfl) (fun d _ _ _ _ h => by cases d <;> exact h) ?_
  simp only [opersAt, List.getElem?_toArray, List.getElem?_cons_zero, List.getElem?_cons_succ]
  repeat (go_big_quiet_step (fail))
  refine wpQuiet_nil ?_
  refine mixT_reads [1, 3, 5, 7, 9, 12, 16, 18, 21, 23, 25, 27, 29] (fuel := 3) rfl (by kernel_rfl) (by decide) (by kernel_rfl) (fun d _ _ _ _ h => by cases d <;> exact h) (ext_drew _ _) ?_
  simp only [opersAt, List.getElem?_toArray, List.getElem?_cons_zero, List.getElem?_cons_succ]
  repeat (go_big_quiet_step (fail))
  refine wpQuiet_nil ?_
  refine mixT_one (k := 19) (by kernel_rfl) rfl ?_
  go_wp2_with (go_at_call 100; refine (inForce_calls _ ok _ _ _ _ L.pr.ver s.collected (HLW.out.pr.below (Below.refl _ _).drew).v hver).mono ?_; rintro e V1 ⟨rfl, hb1⟩; rw [← HFO.out])
  have HC1 : Hid (Below W2.heap.size W2 V1) := (Below.refl _ _).drew.trans hb1
  refine ⟨Or.inr (by intros; exact ⟨⟨_, HC1.out⟩, rfl⟩), ?_⟩
  clear hb1
  refine mixT_slots [30] (fuel := 1) rfl (by kernel_rfl) (by kernel_rfl) (fun d _ _ _ _ h => by cases d <;> exact h) ?_
  simp only [opersAt, List.getElem?_toArray, List.getElem?_cons_zero, List.getElem?_cons_succ]
  repeat (go_big_quiet_step (fail))
  refine wpQuiet_nil ?_
  have hkz : V1.heap[G + 2]? = some (.cells (rowCs zeroRow) 109 (0, 0)) := (HC1.out.block _ (blk_lt HKZ.out)).trans HKZ.out
  have hwz : whole V1 (G + 2) 13 = true := by unfold whole; rw [hkz]; rfl
  have HFIN := hide (heap_setRow_at (ds := rowCs ⟨r.sample, r.analyte, r.version, r.value, s.subject, st, s.visit, fo, s.kit, s.cls, s.collected, s.received, r.tested⟩) hkz)
  have HWV : Hid (Below G w V1) := (HFA.out V1 (HBc.out.trans (HC1.out.mono HBc.out.size))).2.2.2.2.2
  clear hkz
  refine mixT_one (k := 31) (by kernel_rfl) rfl ?_
  go_wp2
  refine ⟨Or.inl (by kernel_rfl), ?_⟩
  refine mixT_nil (by kernel_rfl) ?_
  go_wp2
  refine bodyPost_ret (results_cell1 Tryz.results44 _ _ (G + 2) _ _ _ _ rfl HFIN.out Tryz.underlying109 rfl (by kernel_rfl)) rfl ?_
  refine ⟨by rw [HR.out], ?_⟩
  rw [HG.out]
  exact HWV.out.trans ⟨rfl, rfl, rfl, by simp, fun k hk => setRow_other _ _ _ _ (by omega)⟩
end Go.Proofs.Qxb6500666aGreatDoor
