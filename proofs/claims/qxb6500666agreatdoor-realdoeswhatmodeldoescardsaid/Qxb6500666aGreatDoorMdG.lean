/- The model's Eligible. -/
import Derived.Test.Qxb6500666aGreatDoorMdL
import Derived.Test.Qxb6500666aGreatDoorHoldW
import Derived.Test.Qxb6500666aGreatDoorEligP
namespace Go.Proofs.Qxb6500666aGreatDoor
open Go.RowKit
/-- A result's row, if nothing holds it back. -/
def elgOf (L : Low) (r : Res) : Option Row := match smpGet L.sm r.sample with
  | none => none
  | some s => if holdsOf L s r == 0 then some (rowM L s r) else none
def elgs (L : Low) : List Row := L.sm.rs.filterMap (elgOf L)
theorem elgs_len (L : Low) : (elgs L).length ≤ L.sm.rs.length := List.length_filterMap_le _ _
theorem elg_take {L : Low} {q : Nat} (h : q < L.sm.rs.length) {s : Smp} (hs : smpGet L.sm L.sm.rs[q].sample = some s) : (L.sm.rs.take (q + 1)).filterMap (elgOf L) = (L.sm.rs.take q).filterMap (elgOf L) ++ (if holdsOf L s L.sm.rs[q] == 0 then [rowM L s L.sm.rs[q]] else []) := by
  rw [List.take_succ_eq_append_getElem h, List.filterMap_append]
  congr 1
  simp only [List.filterMap_cons, List.filterMap_nil, elgOf, hs]
  cases (holdsOf L s L.sm.rs[q] == 0) <;> rfl
attribute [local go_sem] ext_const Ext.cell Ext.frozen Ext.rng Ext.whole
attribute [local go_sem ↓] exec_ldRow exec_stRow exec_bsRow exec_ldSmS exec_ldRes exec_stRes exec_ldSmp exec_stSmp
attribute [local go_sem] run_ldRow run_stRow run_bsRow rowCs_size rowCs_ones rowCs_all run_ldSmS run_ldRes run_stRes resCs_size resCs_ones run_ldSmp run_stSmp smpCs_size smpCs_ones whole_alloc_lt whole_alloc_at whole_drew setRow_alloc_at setRow_alloc_lt setRow_drew rng_alloc_lt rng_alloc_at rng_drew rng_drewN

set_option maxRecDepth 100000 in
set_option maxHeartbeats 8000000 in
theorem mElig_calls (w : World) (M : Nat) (ok : Nat → Prop) (x : LV) (L : Low) (hL : LBlk w M 0 x) (hlow : LowAt w ok x L) (hsu : SU L.sm) (htm : L.Times) (hsl : L.sm.rs.length ≤ 1000000) :
    Calls Tryz.prog 205 #[.pointer (some ⟨M, 0, none⟩)] w fun e w' => ∃ v, e = .returned v ∧ OwnR w' w.heap.size 109 13 rowCs v (ordK (elgs L)) ∧ Below w.heap.size w w' := by
  obtain ⟨E, hE⟩ : ∃ E, E = elgs L := ⟨_, rfl⟩
  have HEL : Hid (E.length ≤ 1000000) := by have := elgs_len L; rw [← hE] at this; show _ ≤ _; omega
  rw [← hE]
  have HE := hide hE
  have HLB := hide hL
  have HLOW := hide hlow
  have HSU := hide hsu
  have HTM := hide htm
  have zM := hL.lt
  obtain ⟨ra, rcap, rb, roff, hre, hrl, hrm, hrr, hra, hrc⟩ := RArr.lt hlow.sm.b
  obtain ⟨nr, hnr⟩ : ∃ nr, nr = L.sm.rs.length := ⟨_, rfl⟩
  have HNR := hide hnr
  rw [← hnr] at hre hrl hrr hra hsl
  obtain ⟨p0, p1, p2, p3, k, s1, s2, s3⟩ := x
  dsimp only at hre
  subst hre
  have f6 : w.cell? ⟨M, 6, none⟩ = some (.slice ra nr rcap) := by
    have := (rng_cell hL.sm).2 1 (by decide)
    simpa using this
  have hi := run_indexAt_arr (P := Tryz.prog) (n := nr) (cap := rcap) Tryz.underlying37 Tryz.size92 (fun h => (hra h).1)
  have HRB : Hid (0 < nr → rb < w.heap.size) := fun h => (hra h).2.2
  have HRC := hide hrc
  clear hra hrc hnr hrm hrl hL hlow hE hsu htm
  have HO0 : Hid (OwnR w w.heap.size 109 13 rowCs (.slice none 0 0) ((L.sm.rs.take 0).filterMap (elgOf L))) := OwnR.nil _ _ _ _ _
  have HB0 := hide (Below.refl w.heap.size w)
  go_enter Tryz.func205, Tryz.ntmps205
  go_upto_region 3 with fail
  clear f6
  go_loopg [3, 14] nr (fun gk ov j W => ∃ (q n : Nat) (oa : Option Addr) (oc : Nat), q ≤ nr ∧ gk = nr - q ∧ ov = .slice oa n oc ∧ j = .int .i64 q ∧ n ≤ q ∧ Hid (n = ((L.sm.rs.take q).filterMap (elgOf L)).length) ∧ Hid (OwnR W w.heap.size 109 13 rowCs (.slice oa n oc) ((L.sm.rs.take q).filterMap (elgOf L))) ∧ Hid (Below w.heap.size w W))
  case atStart => exact ⟨0, 0, none, 0, by omega, by omega, rfl, rfl, by omega, rfl, HO0, HB0⟩
  clear HO0 HB0
  case round =>
    obtain ⟨q, n, oa, oc, hq, rfl, rfl, rfl, hnq, HNN, HOW, HBR⟩ := hrel
    have hsr := HBR.out.size
    by_cases hlt : q < nr
    · have hqs : q < L.sm.rs.length := by rw [← HNR.out]; exact hlt
      have hbb := HRB.out (by omega)
      have c0 := HRC.out q hqs
      rw [← rng_of_block (HBR.out.block _ hbb)] at c0
      have hbw : rb < wr.heap.size := by omega
      obtain ⟨sm, hsm⟩ := HSU.out.smp (List.getElem_mem hqs)
      have HTK := hide (elg_take hqs hsm)
      have HSM := hide hsm
      have HSI := hide (smpGet_mem hsm)
      have HRI : Hid (L.sm.rs[q] ∈ L.sm.rs) := List.getElem_mem hqs
      generalize L.sm.rs[q] = r at *
      clear hsm
      go_upto_region 5 with fail
      have hb2 : Below wr.heap.size wr (wr.alloc (.cells (resCs r) 92)) := (Below.refl _ _).alloc (Nat.le_refl _) _
      have hkr : (wr.alloc (.cells (resCs r) 92)).heap[wr.heap.size]? = some (.cells (resCs r) 92 (0, 0)) := heap_alloc_at _ _
      generalize wr.alloc (.cells (resCs r) 92) = V1 at *
      have HV1 : Hid (Below w.heap.size w V1) := HBR.out.trans (hb2.mono hsr)
      have HOV := hide (HOW.out.below hb2 (Nat.le_refl _))
      generalize wr.heap.size = DR at *
      clear c0 hbw HBR hsr hb2 HOW
      have HL1 := hide (HLB.out.below HV1.out zM)
      have g5 : rng V1 M 5 3 = some #[s1, .slice ra nr rcap, s3] := by have := HL1.out.sm; simpa using this
      have e2 := cells_all hkr 0
      simp only [resCs, List.getElem?_toArray, List.getElem?_cons_zero] at e2
      have z2 := HL1.out.lt
      have z3 := blk_lt hkr
      have HKR := hide hkr
      clear hkr
      go_cut [6] (fun v V => ∃ N, v = .pointer (some ⟨N, 0, none⟩) ∧ V.heap[N]? = some (.cells (smpCs sm) 94 (0, 0)) ∧ Hid (Below V1.heap.size V1 V))
      case first =>
        as_aux_lemma =>
        have HSC : Hid (∀ V, Below V1.heap.size V1 V → Calls Tryz.prog 28 #[.agg #[s1, .slice ra nr rcap, s3], .int .u32 r.sample] V fun e w' => e = .returned (.tuple #[.agg (smpCs sm), .bool true]) ∧ Below V.heap.size V w') := fun V hb => by
          have := smpGet_calls V ok _ _ _ L.sm r.sample ((HLOW.out.below (HV1.out.trans (hb.mono HV1.out.size))).sm)
          rw [HSM.out] at this
          exact this
        refine wp_region_mixT (V1.heap.size) [3, 5] (by kernel_rfl) ?_
        refine mixT_slots [0, 1, 2, 4] (fuel := 9) rfl (by kernel_rfl) (by kernel_rfl) (fun d _ _ _ _ h => by cases d <;> exact h) ?_
        simp only [opersAt, List.getElem?_toArray, List.getElem?_cons_zero, List.getElem?_cons_succ]
        repeat (go_big_quiet_step (fail))
        refine wpQuiet_nil ?_
        refine mixT_reads [3, 5] (fuel := 7) rfl (by kernel_rfl) (by decide) (by kernel_rfl) (fun d _ _ _ _ h => by cases d <;> exact h) (ext_drew _ _) ?_
        simp only [opersAt, List.getElem?_toArray, List.getElem?_cons_zero, List.getElem?_cons_succ]
        repeat (go_big_quiet_step (fail))
        refine wpQuiet_nil ?_
        refine mixT_two (k := 6) (k' := 10) (by kernel_rfl) rfl rfl ?_ ?_
        · go_wp2_with (go_at_call 28; refine (HSC.out _ (Below.refl _ _).drew).mono ?_; rintro e w2 ⟨rfl, hb1⟩)
          have hbw : Below V1.heap.size V1 w2 := (Below.refl _ _).drew.trans hb1
          refine ⟨Or.inr (by intros; exact ⟨⟨_, hbw⟩, rfl⟩), ?_⟩
          have hzz := hbw.size
          refine mixT_slots [7, 8, 9] (fuel := 3) rfl (by kernel_rfl) (by kernel_rfl) (fun d _ _ _ _ h => by cases d <;> exact h) ?_
          simp only [opersAt, List.getElem?_toArray, List.getElem?_cons_zero, List.getElem?_cons_succ]
          repeat (go_big_quiet_step (fail))
          refine wpQuiet_nil ?_
          refine mixT_one (k := 10) (by kernel_rfl) rfl ?_
          go_wp2
          refine ⟨Or.inr (by intros; exact ⟨⟨_, hbw.alloc hzz _⟩, rfl⟩), ?_⟩
          refine mixT_one (k := 11) (by kernel_rfl) rfl ?_
          go_wp2
          first
            | refine ⟨Or.inl (by kernel_rfl), ?_⟩
            | skip
          refine mixT_one (k := 12) (by kernel_rfl) rfl ?_
          go_wp2
          first
            | refine ⟨Or.inr (fun h => h), ?_⟩
            | skip
          refine mixT_nil (by kernel_rfl) ?_
          go_wp2
          go_meet
          case rel => exact ⟨_, rfl, heap_alloc_at _ _, hbw.alloc hzz _⟩
        · go_wp2
          have hb0 : Below V1.heap.size V1 (V1.drew.alloc (.cells (smpCs smp0) 94)) := (Below.refl _ _).drew.alloc (Nat.le_refl _) _
          refine ⟨Or.inr (by intros; exact ⟨⟨_, hb0⟩, rfl⟩), ?_⟩
          refine mixT_one (k := 6) (by kernel_rfl) rfl ?_
          go_wp2_with (go_at_call 28; refine (HSC.out _ hb0).mono ?_; rintro e w2 ⟨rfl, hb1⟩)
          have hbw : Below V1.heap.size V1 w2 := hb0.trans (hb1.mono hb0.size)
          refine ⟨Or.inr (by intros; exact ⟨⟨_, hbw⟩, rfl⟩), ?_⟩
          have hgb : w2.heap[V1.heap.size]? = some (.cells (smpCs smp0) 94 (0, 0)) := (hb1.block _ (by simp)).trans (heap_alloc_at _ _)
          have hwg : whole w2 V1.heap.size 8 = true := whole_blk hgb
          have hgl := blk_lt hgb
          refine mixT_slots [7, 8, 9] (fuel := 2) rfl (by kernel_rfl) (by kernel_rfl) (fun d _ _ _ _ h => by cases d <;> exact h) ?_
          simp only [opersAt, List.getElem?_toArray, List.getElem?_cons_zero, List.getElem?_cons_succ]
          repeat (go_big_quiet_step (fail))
          refine wpQuiet_nil ?_
          refine mixT_one (k := 11) (by kernel_rfl) rfl ?_
          go_wp2
          first
            | refine ⟨Or.inl (by kernel_rfl), ?_⟩
            | skip
          refine mixT_one (k := 12) (by kernel_rfl) rfl ?_
          go_wp2
          first
            | refine ⟨Or.inr (fun h => h), ?_⟩
            | skip
          refine mixT_nil (by kernel_rfl) ?_
          go_wp2
          go_meet
          case rel => exact ⟨_, rfl, heap_setRow_at hgb, hbw.trans (below_setRow' _ _ (Nat.le_refl _))⟩
      case rest =>
        as_aux_lemma =>
        obtain ⟨N, rfl, hks2, HV2⟩ := hcut
        generalize wc = V2 at *
        have hkr2 := (HV2.out.block _ z3).trans HKR.out
        have HV3 : Hid (Below w.heap.size w V2) := HV1.out.trans (HV2.out.mono HV1.out.size)
        have HO3 := hide (HOV.out.below HV2.out (Nat.le_refl _))
        have y1 : rng V2 N 0 8 = some (smpCs sm) := rng_whole hks2
        have y2 : rng V2 DR 0 6 = some (resCs r) := rng_whole hkr2
        have HHC : Hid (∀ V, Below V2.heap.size V2 V → Calls Tryz.prog 29 #[.pointer (some ⟨M, 0, none⟩), .agg (smpCs sm), .agg (resCs r)] V fun e w' => e = .returned (.int .u16 (holdsOf L sm r)) ∧ Below V.heap.size V w') := fun V hb => by
          have hv := HV3.out.trans (hb.mono HV3.out.size)
          exact mHolds_calls V M 0 ok _ L sm r (HLB.out.below hv zM) (HLOW.out.below hv) (HTM.out.s _ HSI.out).1 (HTM.out.s _ HSI.out).2 (HTM.out.r _ HRI.out) HTM.out.v
        have HRO : Hid (∀ V, Below V2.heap.size V2 V → Calls Tryz.prog 44 #[.pointer (some ⟨M, 0, none⟩), .agg (smpCs sm), .agg (resCs r)] V fun e w' => e = .returned (.agg (rowCs (rowM L sm r))) ∧ Below V.heap.size V w') := fun V hb => by
          have hv := HV3.out.trans (hb.mono HV3.out.size)
          exact mRowOf_calls V M ok _ L sm r (HLB.out.below hv zM) (HLOW.out.below hv) HTM.out.v
        have zr := blk_lt hkr2
        have zN := blk_lt hks2
        clear e2 g5 z2 z3 HKR hkr2 hks2 HV1 HL1 HSM HSI HRI HV2 HOV
        generalize holdsOf L sm r = want at *
        cases hw : (want == 0) with
        | false =>
          have HF : Hid ((L.sm.rs.take (q + 1)).filterMap (elgOf L) = (L.sm.rs.take q).filterMap (elgOf L)) := HTK.out.trans (by rw [hw]; simp)
          go_wp2_with (go_at_call 29; refine (HHC.out _ (Below.refl _ _)).mono ?_; rintro e V3 ⟨rfl, hb3⟩)
          go_roundg (nr - (q + 1))
          case measure => omega
          case rel => exact ⟨q + 1, n, oa, oc, by omega, rfl, rfl, by go_num, by omega, by rw [HF.out]; exact HNN, by rw [HF.out]; exact HO3.out.below hb3 (Nat.le_refl _), HV3.out.trans (hb3.mono HV3.out.size)⟩
        | true =>
          have HF : Hid ((L.sm.rs.take (q + 1)).filterMap (elgOf L) = (L.sm.rs.take q).filterMap (elgOf L) ++ [rowM L sm r]) := HTK.out.trans (by rw [hw]; rfl)
          clear HTK
          generalize rowM L sm r = ro at *
          go_upto_region 7 with (go_at_call 29; refine (HHC.out _ (Below.refl _ _)).mono ?_; rintro e V3 ⟨rfl, hb3⟩)
          have HO4 := hide (HO3.out.below hb3 (Nat.le_refl _))
          have HV4 : Hid (Below w.heap.size w V3) := HV3.out.trans (hb3.mono HV3.out.size)
          have HRP := hide (HRO.out _ hb3)
          have y3 : rng V3 N 0 8 = some (smpCs sm) := (rng_of_block (hb3.block _ zN) _ _).trans y1
          have y4 : rng V3 DR 0 6 = some (resCs r) := (rng_of_block (hb3.block _ zr) _ _).trans y2
          have zN3 : N < V3.heap.size := Nat.lt_of_lt_of_le zN hb3.size
          have zr3 : DR < V3.heap.size := Nat.lt_of_lt_of_le zr hb3.size
          clear hb3 HO3 HV3 HRO HHC y1 y2 zN zr
          go_wp2_with first
            | (go_at_call 44; refine HRP.out.mono ?_; rintro e V5 ⟨rfl, hb5⟩; have HO6 := hide (HO4.out.below hb5 (Nat.le_refl _)); have HV6 : Hid (Below w.heap.size w V5) := HV4.out.trans (hb5.mono HV4.out.size); have hs6 := HV6.out.size; clear HRP HO4 hb5 HV4)
            | (at_builtin; refine wpList_app1 (α := Row) rfl _ _ 150 rfl w.heap.size 109 rowCs Tryz.underlying150 Tryz.info109 rfl (by decide) rowCs_size rowCs_one (.slice oa n oc) ((L.sm.rs.take q).filterMap (elgOf L)) rfl (OwnR.below HO6.out ((Below.refl _ _).alloc (Nat.le_refl _) _) (Nat.le_refl _)) _ rfl ro (rng_whole (heap_alloc_at _ _)) (by rw [← HNN.out]; omega) (by rw [← HNN.out]; unfold maxLen; omega) (by simp only [World.size_alloc]; omega) ?_; intro v8 w8 hown8 hsame8 hbel8 hat8; obtain ⟨a8, c8, hv8⟩ := hown8.form; rw [List.length_append, ← HNN.out, List.length_singleton] at hv8; subst hv8)
          go_roundg (nr - (q + 1))
          case measure => omega
          case rel => exact ⟨q + 1, n + 1, a8, c8, by omega, rfl, rfl, by go_num, by omega, by rw [HF.out]; show _ = _; rw [List.length_append, ← HNN.out]; rfl, by rw [HF.out]; exact hown8, (HV6.out.alloc hs6 _).trans hbel8⟩
    · obtain rfl : q = nr := by omega
      rw [List.take_of_length_le (by rw [← HNR.out]; omega)] at HNN HOW
      rw [show L.sm.rs.filterMap (elgOf L) = E from HE.out.symm] at HNN HOW
      have HIK := hide (inKey_calls wr (w.heap.size ≤ ·) oa n oc E (HOW.out.rows rowCs_size (by decide) (by have := HEL.out; omega)) (by rw [HNN.out]; have := HEL.out; omega))
      go_wp2_with (go_at_call 186; refine HIK.out.mono ?_; rintro e w2 ⟨v2, rfl, hown2, hb2⟩)
      go_ret
      exact ⟨v2, rfl, hown2.baseLe hsr, HBR.out.trans (hb2.mono hsr)⟩
end Go.Proofs.Qxb6500666aGreatDoor
