/- The model's read: kind 24. (Made by tools/mk_mrd.py.) -/
import Derived.Test.Qxb6500666aGreatDoorMdT1
namespace Go.Proofs.Qxb6500666aGreatDoor
open Go.RowKit
theorem resGet_key {T : Sm} {s a : Int} {r : Res} (h : resGet T s a = some r) : r.sample = s ∧ r.analyte = a := by
  unfold resGet at h
  split at h
  · cases h
  · rename_i hn
    rcases findI_cases (fun x : Res => (x.sample == s) && (x.analyte == a)) T.rs with e | ⟨q, hq, e, hp⟩
    · unfold rIdx at hn; omega
    · have e' : rIdx T.rs s a = q := e
      rw [e', Int.toNat_natCast, List.getElem?_eq_getElem hq] at h
      injection h with h
      rw [h] at hp
      simpa using hp
attribute [local go_sem] ext_const Ext.cell Ext.frozen Ext.rng Ext.whole
attribute [local go_sem ↓] exec_ldRsp exec_stRsp exec_bdRsp exec_stStat exec_stHd exec_ldFile exec_stFile exec_bdHd7 exec_bdFile1 exec_ldEnt exec_stEnt exec_ldSmS exec_ldRes exec_stRes exec_ldSmp exec_stSmp exec_ldRow exec_stRow exec_bsRow exec_bdRow2 exec_bdHeld exec_bsHeld
attribute [local go_sem] run_ldRsp run_stRsp run_bdRsp0 run_bdRsp1 respCs_ones run_ldFile run_stFile run_bdHd7 run_bdFile1 fileCs_size fileCs_ones fileCs_all file_ones zfCs_size run_ldEnt run_ldSmS run_ldRes run_stRes resCs_size resCs_ones run_ldSmp run_stSmp smpCs_size smpCs_ones run_ldRow run_stRow run_bsRow run_bdRow2 run_bdHeld run_bsHeld rowCs_size rowCs_ones rowCs_all whole_alloc_lt whole_alloc_at whole_drew setRow_alloc_at setRow_alloc_lt setRow_drew rng_alloc_lt rng_alloc_at rng_drew rng_drewN rng_setCell_other whole_setCell_other

set_option maxRecDepth 100000 in
set_option maxHeartbeats 8000000 in
theorem mrd24_calls (rn kn ft : Nat → ByteArray) (w : World) (M : Nat) (ok : Nat → Prop) (v : MV) (m : Mod) (r : Req) (lv : Value) (h : RdI rn kn ft w M ok v m r) (hk : r.kind = 24) :
    Calls Tryz.prog 145 #[.pointer (some ⟨M, 0, none⟩), .agg (reqA r lv)] w fun e w' => RdPost w w' e (rdM24 m r) := by
  have HH := hide h
  have zM := blk_lt h.at'.top
  clear h
  go_enter Tryz.func145, Tryz.ntmps145
  go_upto_region 2 with fail
  have H0 := hide (RB.start w (reqA r lv))
  change Code.wp _ _ _ _ (((w.alloc (.cells (reqA r lv) 53)).alloc (.cells (respCs rsp0) 75)).alloc (.cells (respCs rsp0) 75))
  generalize (((w.alloc (.cells (reqA r lv) 53)).alloc (.cells (respCs rsp0) 75)).alloc (.cells (respCs rsp0) 75)) = W0 at *
  obtain ⟨-, -, hq, -, -, hz⟩ := H0.out.facts
  have q0 := hq 0
  have q3 := hq 3
  have q4 := hq 4
  simp only [reqA, List.getElem?_toArray, List.getElem?_cons_zero, List.getElem?_cons_succ] at q0 q3 q4
  rw [hk] at q0
  have HM := hide (HH.out.at'.below H0.out.blw)
  have zM0 : M < W0.heap.size := by omega
  clear hq
  obtain ⟨⟨p0, p1, p2, p3, k, s1, s2, s3⟩, vu, va, vf⟩ := v
  have g5 : rng W0 M 5 3 = some #[s1, s2, s3] := by have := HM.out.lb.sm; simpa using this
  obtain ⟨Y, hY⟩ : ∃ Y, Y = resGet m.low.sm r.id r.ref := ⟨_, rfl⟩
  have HY := hide hY
  clear hY
  have HSC : Hid (∀ V, Below W0.heap.size W0 V → Calls Tryz.prog 182 #[.agg #[s1, s2, s3], .int .u32 r.id, .int .u32 r.ref] V fun e w' => e = .returned (.tuple #[.agg (resCs (Y.getD res0)), .bool Y.isSome]) ∧ Below V.heap.size V w') := fun V hb => by
    have := resGet_calls V ok _ _ _ m.low.sm r.id r.ref ((HM.out.inn.low.below hb).sm)
    rw [resGetV_get, ← HY.out] at this
    exact this
  go_upto_region 15 with fail
  have hzq : w.heap.size < W0.heap.size := by omega
  go_cut [9, 10] (fun pv bv V => ∃ N, pv = .pointer (some ⟨N, 0, none⟩) ∧ bv = .bool Y.isSome ∧ Hid (V.heap[N]? = some (.cells (resCs (Y.getD res0)) 92 (0, 0))) ∧ Hid (Below W0.heap.size W0 V))
  case first =>
    as_aux_lemma =>
    refine wp_region_mixT (W0.heap.size) [3, 5, 7] (by kernel_rfl) ?_
    refine mixT_slots [0, 1, 2, 4, 6] (fuel := 10) rfl (by kernel_rfl) (by kernel_rfl) (fun d _ _ _ _ h => by cases d <;> exact h) ?_
    simp only [opersAt, List.getElem?_toArray, List.getElem?_cons_zero, List.getElem?_cons_succ]
    repeat (go_big_quiet_step (fail))
    refine wpQuiet_nil ?_
    refine mixT_reads [3, 5, 7] (fuel := 7) rfl (by kernel_rfl) (by decide) (by kernel_rfl) (fun d _ _ _ _ h => by cases d <;> exact h) (ext_drew _ _) ?_
    simp only [opersAt, List.getElem?_toArray, List.getElem?_cons_zero, List.getElem?_cons_succ]
    repeat (go_big_quiet_step (fail))
    refine wpQuiet_nil ?_
    refine mixT_two (k := 8) (k' := 12) (by kernel_rfl) rfl rfl ?_ ?_
    · go_wp2_with (go_at_call 182; refine (HSC.out _ (Below.refl _ _).drew).mono ?_; rintro e w2 ⟨rfl, hb1⟩)
      have hbw : Below W0.heap.size W0 w2 := (Below.refl _ _).drew.trans hb1
      refine ⟨Or.inr (by intros; exact ⟨⟨_, hbw⟩, rfl⟩), ?_⟩
      have hzz := hbw.size
      refine mixT_slots [9, 10, 11] (fuel := 3) rfl (by kernel_rfl) (by kernel_rfl) (fun d _ _ _ _ h => by cases d <;> exact h) ?_
      simp only [opersAt, List.getElem?_toArray, List.getElem?_cons_zero, List.getElem?_cons_succ]
      repeat (go_big_quiet_step (fail))
      refine wpQuiet_nil ?_
      refine mixT_one (k := 12) (by kernel_rfl) rfl ?_
      go_wp2
      refine ⟨Or.inr (by intros; exact ⟨⟨_, hbw.alloc hzz _⟩, rfl⟩), ?_⟩
      refine mixT_one (k := 13) (by kernel_rfl) rfl ?_
      go_wp2
      first
        | refine ⟨Or.inl (by kernel_rfl), ?_⟩
        | skip
      refine mixT_one (k := 14) (by kernel_rfl) rfl ?_
      go_wp2
      first
        | refine ⟨Or.inr (fun h => h), ?_⟩
        | skip
      refine mixT_nil (by kernel_rfl) ?_
      go_wp2
      go_meet
      case rel => exact ⟨_, rfl, rfl, heap_alloc_at _ _, hbw.alloc hzz _⟩
    · go_wp2
      have hb0 : Below W0.heap.size W0 (W0.drew.alloc (.cells (resCs res0) 92)) := (Below.refl _ _).drew.alloc (Nat.le_refl _) _
      refine ⟨Or.inr (by intros; exact ⟨⟨_, hb0⟩, rfl⟩), ?_⟩
      refine mixT_one (k := 8) (by kernel_rfl) rfl ?_
      go_wp2_with (go_at_call 182; refine (HSC.out _ hb0).mono ?_; rintro e w2 ⟨rfl, hb1⟩)
      have hbw : Below W0.heap.size W0 w2 := hb0.trans (hb1.mono hb0.size)
      refine ⟨Or.inr (by intros; exact ⟨⟨_, hbw⟩, rfl⟩), ?_⟩
      have hgb : w2.heap[W0.heap.size]? = some (.cells (resCs res0) 92 (0, 0)) := (hb1.block _ (by simp)).trans (heap_alloc_at _ _)
      have hwg : whole w2 W0.heap.size 6 = true := whole_blk hgb
      have hgl := blk_lt hgb
      refine mixT_slots [9, 10, 11] (fuel := 2) rfl (by kernel_rfl) (by kernel_rfl) (fun d _ _ _ _ h => by cases d <;> exact h) ?_
      simp only [opersAt, List.getElem?_toArray, List.getElem?_cons_zero, List.getElem?_cons_succ]
      repeat (go_big_quiet_step (fail))
      refine wpQuiet_nil ?_
      refine mixT_one (k := 13) (by kernel_rfl) rfl ?_
      go_wp2
      first
        | refine ⟨Or.inl (by kernel_rfl), ?_⟩
        | skip
      refine mixT_one (k := 14) (by kernel_rfl) rfl ?_
      go_wp2
      first
        | refine ⟨Or.inr (fun h => h), ?_⟩
        | skip
      refine mixT_nil (by kernel_rfl) ?_
      go_wp2
      go_meet
      case rel => exact ⟨_, rfl, rfl, heap_setRow_at hgb, hbw.trans (below_setRow' _ _ (Nat.le_refl _))⟩
  case rest =>

  obtain ⟨N, rfl, rfl, HKR, HV⟩ := hcut
  generalize wc = V1 at *
  have H1 := hide (H0.out.next HV.out)
  clear HSC g5 q3 q4
  cases Y with
  | none =>
    have HE : Hid (rdM24 m r = .error 21) := by show rdM24 m r = .error 21; unfold rdM24; rw [← HY.out]
    go_upto_region 17 with fail
    obtain ⟨h1, -⟩ := H1.out.facts
    go_wp2
    obtain ⟨f1, f2⟩ := H1.out.fin (y := { rsp0 with code := 21 })
    refine bodyPost_ret (results_cell1 Tryz.results145 _ _ (w.heap.size + 1) _ _ _ _ rfl f1 Tryz.underlying75 rfl (by kernel_rfl)) rfl ?_
    rw [HE.out]
    exact ⟨rfl, f2⟩
  | some y =>
    have hym := resGet_mem HY.out.symm
    have hyk := resGet_key HY.out.symm
    obtain ⟨sm, hsm⟩ := HH.out.su.smp hym
    rw [hyk.1] at hsm
    have HE : Hid (rdM24 m r = .ok (fun x => x = { rsp0 with holds := holdsOf m.low sm y })) := by show rdM24 m r = _; unfold rdM24; rw [← HY.out, hsm]
    have HT1 := hide (HH.out.times.s _ (smpGet_mem hsm))
    have HT2 := hide (HH.out.times.r _ hym)
    have HTV := hide HH.out.times.v
    have HSM := hide hsm
    have HM1 := hide (HM.out.below HV.out)
    have g5 : rng V1 M 5 3 = some #[s1, s2, s3] := by have := HM1.out.lb.sm; simpa using this
    have q3 := H1.out.facts.2.2.1 3
    simp only [reqA, List.getElem?_toArray, List.getElem?_cons_zero, List.getElem?_cons_succ] at q3
    have zM1 : M < V1.heap.size := Nat.lt_of_lt_of_le zM0 HV.out.size
    have hz1 := H1.out.facts.2.2.2.2.2
    have hzq1 : w.heap.size < V1.heap.size := by omega
    have HSC : Hid (∀ V, Below V1.heap.size V1 V → Calls Tryz.prog 28 #[.agg #[s1, s2, s3], .int .u32 r.id] V fun e w' => e = .returned (.tuple #[.agg (smpCs sm), .bool true]) ∧ Below V.heap.size V w') := fun V hb => by
      have := smpGet_calls V ok _ _ _ m.low.sm r.id ((HM1.out.inn.low.below hb).sm)
      rw [HSM.out] at this
      exact this
    have HKR' : Hid (V1.heap[N]? = some (.cells (resCs y) 92 (0, 0))) := HKR
    clear hym hyk hsm HKR
    go_upto_region 18 with fail
    go_cut [11, 12] (fun pv bv V => ∃ N, pv = .pointer (some ⟨N, 0, none⟩) ∧ bv = .bool true ∧ Hid (V.heap[N]? = some (.cells (smpCs sm) 94 (0, 0))) ∧ Hid (Below V1.heap.size V1 V))
    case first =>
      as_aux_lemma =>
      refine wp_region_mixT (V1.heap.size) [3, 5] (by kernel_rfl) ?_
      refine mixT_slots [0, 1, 2, 4] (fuel := 9) rfl (by kernel_rfl) (by kernel_rfl) (fun d _ _ _ _ h => by cases d <;> exact h) ?_
      simp only [opersAt, List.getElem?_toArray, List.getElem?_cons_zero, List.getElem?_cons_succ]
      repeat (go_big_quiet_step (fail))
      refine wpQuiet_nil ?_
      refine mixT_reads [3, 5] (fuel := 7) rfl (by kernel_rfl) (by decide) (by kernel_rfl) (fun d _ _ _ _ h => by cases d <;> exact h) (ext_drew _ _) ?_
      simp only [opersAt, List.getElem?_toArray, List.getElem?_cons_zero, List.getElem?_cons_succ]
      repeat (go_big_quiet_step (fail))
      refine wpQuiet_nil ?_
      refine mixT_two (k := 6) (k' := 10) (by kernel_rfl) rfl rfl ?_ ?_
      · go_wp2_with (go_at_call 28; refine (HSC.out _ (Below.refl _ _).drew).mono ?_; rintro e w2 ⟨rfl, hb1⟩)
        have hbw : Below V1.heap.size V1 w2 := (Below.refl _ _).drew.trans hb1
        refine ⟨Or.inr (by intros; exact ⟨⟨_, hbw⟩, rfl⟩), ?_⟩
        have hzz := hbw.size
        refine mixT_slots [7, 8, 9] (fuel := 3) rfl (by kernel_rfl) (by kernel_rfl) (fun d _ _ _ _ h => by cases d <;> exact h) ?_
        simp only [opersAt, List.getElem?_toArray, List.getElem?_cons_zero, List.getElem?_cons_succ]
        repeat (go_big_quiet_step (fail))
        refine wpQuiet_nil ?_
        refine mixT_one (k := 10) (by kernel_rfl) rfl ?_
        go_wp2
        refine ⟨Or.inr (by intros; exact ⟨⟨_, hbw.alloc hzz _⟩, rfl⟩), ?_⟩
        refine mixT_one (k := 11) (by kernel_rfl) rfl ?_
        go_wp2
        first
          | refine ⟨Or.inl (by kernel_rfl), ?_⟩
          | skip
        refine mixT_one (k := 12) (by kernel_rfl) rfl ?_
        go_wp2
        first
          | refine ⟨Or.inr (fun h => h), ?_⟩
          | skip
        refine mixT_nil (by kernel_rfl) ?_
        go_wp2
        go_meet
        case rel => exact ⟨_, rfl, rfl, heap_alloc_at _ _, hbw.alloc hzz _⟩
      · go_wp2
        have hb0 : Below V1.heap.size V1 (V1.drew.alloc (.cells (smpCs smp0) 94)) := (Below.refl _ _).drew.alloc (Nat.le_refl _) _
        refine ⟨Or.inr (by intros; exact ⟨⟨_, hb0⟩, rfl⟩), ?_⟩
        refine mixT_one (k := 6) (by kernel_rfl) rfl ?_
        go_wp2_with (go_at_call 28; refine (HSC.out _ hb0).mono ?_; rintro e w2 ⟨rfl, hb1⟩)
        have hbw : Below V1.heap.size V1 w2 := hb0.trans (hb1.mono hb0.size)
        refine ⟨Or.inr (by intros; exact ⟨⟨_, hbw⟩, rfl⟩), ?_⟩
        have hgb : w2.heap[V1.heap.size]? = some (.cells (smpCs smp0) 94 (0, 0)) := (hb1.block _ (by simp)).trans (heap_alloc_at _ _)
        have hwg : whole w2 V1.heap.size 8 = true := whole_blk hgb
        have hgl := blk_lt hgb
        refine mixT_slots [7, 8, 9] (fuel := 2) rfl (by kernel_rfl) (by kernel_rfl) (fun d _ _ _ _ h => by cases d <;> exact h) ?_
        simp only [opersAt, List.getElem?_toArray, List.getElem?_cons_zero, List.getElem?_cons_succ]
        repeat (go_big_quiet_step (fail))
        refine wpQuiet_nil ?_
        refine mixT_one (k := 11) (by kernel_rfl) rfl ?_
        go_wp2
        first
          | refine ⟨Or.inl (by kernel_rfl), ?_⟩
          | skip
        refine mixT_one (k := 12) (by kernel_rfl) rfl ?_
        go_wp2
        first
          | refine ⟨Or.inr (fun h => h), ?_⟩
          | skip
        refine mixT_nil (by kernel_rfl) ?_
        go_wp2
        go_meet
        case rel => exact ⟨_, rfl, rfl, heap_setRow_at hgb, hbw.trans (below_setRow' _ _ (Nat.le_refl _))⟩
    case rest =>

    obtain ⟨N2, rfl, rfl, HKS, HV2⟩ := hcut
    generalize wc = V2 at *
    have H2 := hide (H1.out.next HV2.out)
    have HM2 := hide (HM1.out.below HV2.out)
    have hkr := (HV2.out.block _ (blk_lt HKR'.out)).trans HKR'.out
    have y1 : rng V2 N2 0 8 = some (smpCs sm) := rng_whole HKS.out
    have y2 : rng V2 N 0 6 = some (resCs y) := rng_whole hkr
    have zN := blk_lt hkr
    have zN2 := blk_lt HKS.out
    have HHC := hide (mHolds_calls V2 M 0 ok _ m.low sm y HM2.out.lb HM2.out.inn.low HT1.out.1 HT1.out.2 HT2.out HTV.out)
    clear HSC g5 q3 hkr HKS HKR'
    generalize holdsOf m.low sm y = hv at *
    go_upto_region 66 with (go_at_call 29; refine HHC.out.mono ?_; rintro e W3 ⟨rfl, hb⟩; have H3 := hide (H2.out.next hb); have c28 := H3.out.facts.2.2.2.1 28; simp only [respCs, List.getElem?_toArray, List.getElem?_cons_zero, List.getElem?_cons_succ] at c28; have g28 := H3.out.facts.2.2.2.2.1 28; clear hb)
    have H4 := hide (H3.out.cell (j := 28) (v := .int .u16 hv) { rsp0 with holds := hv } rfl)
    generalize World.setCell _ _ _ = W4 at *
    clear c28 g28 y1 y2
    obtain ⟨h1, h2, -, -, -, -⟩ := H4.out.facts
    go_wp2
    obtain ⟨f1, f2⟩ := H4.out.fin (y := { rsp0 with holds := hv })
    refine bodyPost_ret (results_cell1 Tryz.results145 _ _ (w.heap.size + 1) _ _ _ _ rfl f1 Tryz.underlying75 rfl (by kernel_rfl)) rfl ?_
    rw [HE.out]
    exact ⟨⟨_, rfl, rfl⟩, f2⟩
end Go.Proofs.Qxb6500666aGreatDoor
