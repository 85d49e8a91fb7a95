/- The model's read: kind 29. (Made by tools/mk_mrd.py.) -/
import Derived.Test.Qxb6500666aGreatDoorMdT1
namespace Go.Proofs.Qxb6500666aGreatDoor
open Go.RowKit
theorem RB.low {w W W' : World} {q : Array Value} {x : Rsp} (h : RB w W q x) (hb : Below (w.heap.size + 3) W W') : RB w W' q x :=
  ⟨(hb.block _ (by omega)).trans h.rq, (hb.block _ (by omega)).trans h.rs, (hb.block _ (by omega)).trans h.rp, h.blw.trans (hb.mono (by omega))⟩
theorem But.low {M : Nat} {w u u' : World} (h : But M w u) (hb : Below w.heap.size u u') (hM : M ≤ w.heap.size) : But M w u' := ⟨h.bel.trans (hb.mono hM), fun b hl hn => (hb.block b hl).trans (h.fr b hl hn)⟩
theorem But.trans' {M : Nat} {w w1 w2 : World} (h : But M w w1) (k : But M w1 w2) : But M w w2 := h.trans k
theorem keyL_get {L : Low} (h : SU L.sm) {k : Row} (hk : k ∈ ordK (mKeyL L)) : ∃ y sm, resGet L.sm k.sample k.analyte = some y ∧ smpGet L.sm k.sample = some sm ∧ y ∈ L.sm.rs ∧ sm ∈ L.sm.ss := by
  rw [(ordK_perm _).mem_iff] at hk
  obtain ⟨y, hy, rfl⟩ := List.mem_map.1 hk
  obtain ⟨sm, hsm⟩ := h.smp hy
  exact ⟨y, sm, h.get hy, hsm, hy, smpGet_mem hsm⟩
theorem keyL_take {L : Low} {q : Nat} (h : q < L.sm.rs.length) : (mKeyL L).take (q + 1) = (mKeyL L).take q ++ [⟨L.sm.rs[q].sample, L.sm.rs[q].analyte, 0, 0, 0, 0, 0, 0, 0, 0, 0, 0, 0⟩] := by
  have h' : q < (mKeyL L).length := by simpa [mKeyL] using h
  rw [List.take_succ_eq_append_getElem h']
  simp [mKeyL, zeroRow]
theorem heldM_take {L : Low} {ks : List Row} {q : Nat} (h : q < ks.length) {y : Res} {sm : Smp} (h1 : resGet L.sm ks[q].sample ks[q].analyte = some y) (h2 : smpGet L.sm ks[q].sample = some sm) : (ks.take (q + 1)).filterMap (mHeldOf L) = (ks.take q).filterMap (mHeldOf L) ++ (if holdsOf L sm y == 0 then [] else [⟨ks[q].sample, ks[q].analyte, holdsOf L sm y⟩]) := by
  rw [List.take_succ_eq_append_getElem h, List.filterMap_append]
  congr 1
  simp only [List.filterMap_cons, List.filterMap_nil, mHeldOf, h1, h2]
  by_cases hh : holdsOf L sm y = 0
  · simp [hh]
  · simp [hh]
attribute [local go_sem] ext_const Ext.cell Ext.frozen Ext.rng Ext.whole
attribute [local go_sem ↓] exec_ldRsp exec_stRsp exec_bdRsp exec_stStat exec_stHd exec_ldFile exec_stFile exec_bdHd7 exec_bdFile1 exec_ldEnt exec_stEnt exec_ldSmS exec_ldRes exec_stRes exec_ldSmp exec_stSmp exec_ldRow exec_stRow exec_bsRow exec_bdRow2 exec_bdHeld exec_bsHeld
attribute [local go_sem] run_ldRsp run_stRsp run_bdRsp0 run_bdRsp1 respCs_ones run_ldFile run_stFile run_bdHd7 run_bdFile1 fileCs_size fileCs_ones fileCs_all file_ones zfCs_size run_ldEnt run_ldSmS run_ldRes run_stRes resCs_size resCs_ones run_ldSmp run_stSmp smpCs_size smpCs_ones run_ldRow run_stRow run_bsRow run_bdRow2 run_bdHeld run_bsHeld rowCs_size rowCs_ones rowCs_all whole_alloc_lt whole_alloc_at whole_drew setRow_alloc_at setRow_alloc_lt setRow_drew rng_alloc_lt rng_alloc_at rng_drew rng_drewN rng_setCell_other whole_setCell_other

set_option maxRecDepth 100000 in
set_option maxHeartbeats 8000000 in
theorem mrd29_calls (rn kn ft : Nat → ByteArray) (w : World) (M : Nat) (ok : Nat → Prop) (v : MV) (m : Mod) (r : Req) (lv : Value) (h : RdI rn kn ft w M ok v m r) (hk : r.kind = 29) :
    Calls Tryz.prog 145 #[.pointer (some ⟨M, 0, none⟩), .agg (reqA r lv)] w fun e w' => RdPost w w' e (rdM29 w w' m) := by
  have HH := hide h
  have zM := blk_lt h.at'.top
  clear h
  go_enter Tryz.func145, Tryz.ntmps145
  go_upto_region 2 with fail
  have H0 := hide (RB.start w (reqA r lv))
  change Code.wp _ _ _ _ (((w.alloc (.cells (reqA r lv) 53)).alloc (.cells (respCs rsp0) 75)).alloc (.cells (respCs rsp0) 75))
  generalize (((w.alloc (.cells (reqA r lv) 53)).alloc (.cells (respCs rsp0) 75)).alloc (.cells (respCs rsp0) 75)) = W0 at *
  obtain ⟨-, -, hq, -, -, hz⟩ := H0.out.facts
  have q0 := hq 0

  simp only [reqA, List.getElem?_toArray, List.getElem?_cons_zero] at q0 
  rw [hk] at q0
  have HM := hide (HH.out.at'.below H0.out.blw)
  have zM0 : M < W0.heap.size := by omega
  clear hq
  have HRD : Hid (∀ w', rdM29 w w' m = .ok (fun x => ∃ a n c, x = { rsp0 with held := (a, n, c) } ∧ OwnR w' w.heap.size 101 3 heldCs (.slice a n c) (mHeld m.low))) := fun _ => rfl
  have HSU := hide HH.out.su
  have HTM := hide HH.out.times
  have hsl : m.low.sm.rs.length ≤ 1000000 := HH.out.small.sm.b
  obtain ⟨⟨p0, p1, p2, p3, k, s1, s2, s3⟩, vu, va, vf⟩ := v
  obtain ⟨ra, rcap, rb, roff, hre, hrl, hrm, hrr, hra, hrc⟩ := RArr.lt HM.out.inn.low.sm.b
  obtain ⟨nr, hnr⟩ : ∃ nr, nr = m.low.sm.rs.length := ⟨_, rfl⟩
  have HNR := hide hnr
  rw [← hnr] at hre hrl hrr hra hsl
  dsimp only at hre
  subst hre
  have f6 : W0.cell? ⟨M, 6, none⟩ = some (.slice ra nr rcap) := cells_all HM.out.top 6
  have hi := run_indexAt_arr (P := Tryz.prog) (n := nr) (cap := rcap) Tryz.underlying37 Tryz.size92 (fun h => (hra h).1)
  have HRB : Hid (0 < nr → rb < W0.heap.size) := fun h => (hra h).2.2
  have HRC := hide hrc
  clear hra hrc hnr hrm hrl hrr
  have HKL : Hid ((mKeyL m.low).length = nr) := by show _ = _; rw [HNR.out]; simp [mKeyL]
  have HO0 : Hid (OwnR W0 W0.heap.size 109 13 rowCs (.slice none 0 0) ((mKeyL m.low).take 0)) := OwnR.nil _ _ _ _ _
  have HB0 := hide (Below.refl W0.heap.size W0)
  go_upto_region 51 with fail
  clear f6
  go_loopg [22, 236] nr (fun gk ov j W => ∃ (q : Nat) (oa : Option Addr) (oc : Nat), q ≤ nr ∧ gk = nr - q ∧ ov = .slice oa q oc ∧ j = .int .i64 q ∧ Hid (OwnR W W0.heap.size 109 13 rowCs (.slice oa q oc) ((mKeyL m.low).take q)) ∧ Hid (Below W0.heap.size W0 W))
  case atStart => exact ⟨0, none, 0, by omega, by omega, rfl, rfl, HO0, HB0⟩
  clear HO0 HB0
  case round =>
    obtain ⟨q, oa, oc, hq, rfl, rfl, rfl, HOW, HBR⟩ := hrel
    have hsr := HBR.out.size
    by_cases hlt : q < nr
    · have hqs : q < m.low.sm.rs.length := by rw [← HNR.out]; exact hlt
      have hbb := HRB.out (by omega)
      have c0 := HRC.out q hqs
      rw [← rng_of_block (HBR.out.block _ hbb)] at c0
      have hbw : rb < wr.heap.size := by omega
      have HTK := hide (keyL_take hqs)
      generalize m.low.sm.rs[q] = y at *
      have HTL : Hid (((mKeyL m.low).take q).length = q) := by show _ = _; rw [List.length_take, HKL.out]; omega
      generalize (mKeyL m.low).take q = ks at *
      go_upto_region 53 with fail
      have hb2 : Below wr.heap.size wr (wr.alloc (.cells (resCs y) 92)) := (Below.refl _ _).alloc (Nat.le_refl _) _
      have hkr : (wr.alloc (.cells (resCs y) 92)).heap[wr.heap.size]? = some (.cells (resCs y) 92 (0, 0)) := heap_alloc_at _ _
      generalize wr.alloc (.cells (resCs y) 92) = V1 at *
      have HV1 : Hid (Below W0.heap.size W0 V1) := HBR.out.trans (hb2.mono hsr)
      have HOV := hide (HOW.out.below hb2 (Nat.le_refl _))
      generalize wr.heap.size = DR at *
      have e0 : V1.cell? ⟨DR, 0, none⟩ = some (.int .u32 y.sample) := cells_all hkr 0
      have e1 : V1.cell? ⟨DR, 1, none⟩ = some (.int .u32 y.analyte) := cells_all hkr 1
      have z3 := blk_lt hkr
      have hs1 := HV1.out.size
      clear c0 hbw HBR hsr hb2 HOW hkr
      go_wp2_with (at_builtin; refine wpList_app1 (α := Row) rfl _ _ 150 rfl W0.heap.size 109 rowCs Tryz.underlying150 Tryz.info109 rfl (by decide) rowCs_size rowCs_one (.slice oa q oc) ks rfl (OwnR.below HOV.out ((Below.refl _ _).alloc (Nat.le_refl _) _) (Nat.le_refl _)) _ rfl ⟨y.sample, y.analyte, 0, 0, 0, 0, 0, 0, 0, 0, 0, 0, 0⟩ (rng_whole (heap_alloc_at _ _)) (by rw [HTL.out]; omega) (by rw [HTL.out]; unfold maxLen; omega) (by simp only [World.size_alloc]; omega) ?_; intro v8 w8 hown8 hsame8 hbel8 hat8; obtain ⟨a8, c8, hv8⟩ := hown8.form; rw [List.length_append, HTL.out, List.length_singleton] at hv8; subst hv8)
      go_roundg (nr - (q + 1))
      case measure => omega
      case rel => exact ⟨q + 1, a8, c8, by omega, rfl, rfl, by go_num, by rw [HTK.out]; exact hown8, (HV1.out.alloc hs1 _).trans hbel8⟩
    · obtain rfl : q = nr := by omega
      rw [List.take_of_length_le (by rw [HKL.out]; omega)] at HOW
      have HIK := hide (inKey_calls wr (W0.heap.size ≤ ·) oa q oc (mKeyL m.low) (HOW.out.rows rowCs_size (by decide) (by rw [HKL.out]; omega)) (by omega))
      have HLK : Hid ((ordK (mKeyL m.low)).length = q) := (ordK_len _).trans HKL.out
      have HGT : Hid (∀ x ∈ ordK (mKeyL m.low), ∃ y sm, resGet m.low.sm x.sample x.analyte = some y ∧ smpGet m.low.sm x.sample = some sm ∧ y ∈ m.low.sm.rs ∧ sm ∈ m.low.sm.ss) := fun x hx => keyL_get HSU.out hx
      have HHL : Hid (mHeld m.low = (ordK (mKeyL m.low)).filterMap (mHeldOf m.low)) := rfl
      generalize ordK (mKeyL m.low) = ks at *
      clear hi HOW HKL
      go_upto_region 56 with (go_at_call 186; refine HIK.out.mono ?_; rintro e W1 ⟨v2, rfl, hown2, hb2⟩; obtain ⟨ka, kc, hv2⟩ := hown2.form; rw [HLK.out] at hv2; subst hv2)
      have HV1 : Hid (Below W0.heap.size W0 W1) := HBR.out.trans (hb2.mono hsr)
      obtain ⟨ka', kc', kb, koff, hke, hkl, hkm, hkr, hka, hkc⟩ := (hown2.rows rowCs_size (by decide) (by rw [HLK.out]; omega))
      simp only [Value.slice.injEq] at hke
      obtain ⟨rfl, hkn, rfl⟩ := hke
      rw [← hkn] at hkl hkr hka
      have hi := run_indexAt_arr (P := Tryz.prog) (n := q) (cap := kc) Tryz.underlying150 Tryz.size109 (fun h => (hka h).1)
      have HKB : Hid (0 < q → wr.heap.size ≤ kb ∧ kb < W1.heap.size) := fun h => ⟨(hka h).2, rng_lt (hkc 0 (by rw [HLK.out]; exact h))⟩
      have HKC := hide hkc
      clear hka hkc hkm hkl hkr hkn hown2 hb2 HIK
      have H1 := hide (H0.out.next HV1.out)
      have HT0 : Hid (OwnR W1 W1.heap.size 101 3 heldCs (.slice none 0 0) ((ks.take 0).filterMap (mHeldOf m.low))) := OwnR.nil _ _ _ _ _
      have HBU0 : Hid (But (w.heap.size + 2) W1 W1) := But.of (Below.refl _ _) (by have := HV1.out.size; omega)
      have hW01 := HV1.out.size
      go_loopg [252] q (fun gk j W => ∃ (i n : Nat) (ha : Option Addr) (hc : Nat), i ≤ q ∧ gk = q - i ∧ j = .int .i64 i ∧ n ≤ i ∧ Hid (n = ((ks.take i).filterMap (mHeldOf m.low)).length) ∧ Hid (RB w W (reqA r lv) { rsp0 with held := (ha, n, hc) }) ∧ Hid (OwnR W W1.heap.size 101 3 heldCs (.slice ha n hc) ((ks.take i).filterMap (mHeldOf m.low))) ∧ Hid (But (w.heap.size + 2) W1 W))
      case atStart => exact ⟨0, 0, none, 0, by omega, by omega, rfl, by omega, rfl, H1, HT0, HBU0⟩
      clear HT0 HBU0 H1
      case round =>
        obtain ⟨i, n, ha, hc, hi2, rfl, rfl, hni, HNN, HRB1, HOW, HBU⟩ := hrel
        have hz1 := HBU.out.size
        by_cases hlt : i < q
        · have his : i < ks.length := by rw [HLK.out]; exact hlt
          obtain ⟨hkb1, hkb2⟩ := HKB.out (by omega)
          have c0 := HKC.out i his
          rw [← rng_of_block (HBU.out.fr kb hkb2 (by omega))] at c0
          have hbw : kb < wr.heap.size := by omega
          obtain ⟨y, sm, hy, hsm, hym, hsmm⟩ := HGT.out _ (List.getElem_mem his)
          have HTK := hide (heldM_take his hy hsm)
          have HT1 := hide (HTM.out.s _ hsmm)
          have HT2 := hide (HTM.out.r _ hym)
          have HTV := hide HTM.out.v
          have HY := hide hy
          have HSM := hide hsm
          generalize ks[i] = kr at *
          clear hy hsm hym hsmm
          go_upto_region 58 with fail
          have hb2 : Below wr.heap.size wr (wr.alloc (.cells (rowCs kr) 109)) := (Below.refl _ _).alloc (Nat.le_refl _) _
          have hkr : (wr.alloc (.cells (rowCs kr) 109)).heap[wr.heap.size]? = some (.cells (rowCs kr) 109 (0, 0)) := heap_alloc_at _ _
          generalize wr.alloc (.cells (rowCs kr) 109) = V1 at *
          have HRV := hide (HRB1.out.next hb2)
          have HOV := hide (HOW.out.below hb2 (Nat.le_refl _))
          have HBV := hide (HBU.out.low (hb2.mono hz1) (by omega))
          have hzV : W1.heap.size ≤ wr.heap.size := hz1
          have hzV1 := hb2.size
          generalize wr.heap.size = DK at *
          have HM1 := hide (HH.out.at'.below HRV.out.blw)
          have g5 : rng V1 M 5 3 = some #[s1, .slice ra q rcap, s3] := by have := HM1.out.lb.sm; simpa using this
          have d0 : V1.cell? ⟨DK, 0, none⟩ = some (.int .u32 kr.sample) := cells_all hkr 0
          have d1 : V1.cell? ⟨DK, 1, none⟩ = some (.int .u32 kr.analyte) := cells_all hkr 1
          have zM1 : M < V1.heap.size := by omega
          have zD := blk_lt hkr
          have HKR := hide hkr
          have HSC : Hid (∀ V, Below V1.heap.size V1 V → Calls Tryz.prog 182 #[.agg #[s1, .slice ra q rcap, s3], .int .u32 kr.sample, .int .u32 kr.analyte] V fun e w' => e = .returned (.tuple #[.agg (resCs y), .bool true]) ∧ Below V.heap.size V w') := fun V hb => by
            have := resGet_calls V ok _ _ _ m.low.sm kr.sample kr.analyte ((HM1.out.inn.low.below hb).sm)
            rw [HY.out] at this
            exact this
          clear c0 hbw HRB1 HOW HBU hb2 hkr hz1 hi
          go_cut [27, 28] (fun pv bv V => ∃ N, pv = .pointer (some ⟨N, 0, none⟩) ∧ bv = .bool true ∧ Hid (V.heap[N]? = some (.cells (resCs y) 92 (0, 0))) ∧ Hid (Below V1.heap.size V1 V))
          case first =>
            as_aux_lemma =>
            refine wp_region_mixT (V1.heap.size) [3, 5, 7] (by kernel_rfl) ?_
            refine mixT_slots [0, 1, 2, 4, 6] (fuel := 10) rfl (by kernel_rfl) (by kernel_rfl) (fun d _ _ _ _ h => by cases d <;> exact h) ?_
            simp only [opersAt, List.getElem?_toArray, List.getElem?_cons_zero, List.getElem?_cons_succ]
            repeat (go_big_quiet_step (fail))
            refine wpQuiet_nil ?_
            refine mixT_reads [3, 5, 7] (fuel := 7) rfl (by kernel_rfl) (by decide) (by kernel_rfl) (fun d _ _ _ _ h => by cases d <;> exact h) (ext_drew _ _) ?_
            simp only [opersAt, List.getElem?_toArray, List.getElem?_cons_zero, List.getElem?_cons_succ]
            repeat (go_big_quiet_step (fail))
            refine wpQuiet_nil ?_
            refine mixT_two (k := 8) (k' := 12) (by kernel_rfl) rfl rfl ?_ ?_
            · go_wp2_with (go_at_call 182; refine (HSC.out _ (Below.refl _ _).drew).mono ?_; rintro e w2 ⟨rfl, hb1⟩)
              have hbw : Below V1.heap.size V1 w2 := (Below.refl _ _).drew.trans hb1
              refine ⟨Or.inr (by intros; exact ⟨⟨_, hbw⟩, rfl⟩), ?_⟩
              have hzz := hbw.size
              refine mixT_slots [9, 10, 11] (fuel := 3) rfl (by kernel_rfl) (by kernel_rfl) (fun d _ _ _ _ h => by cases d <;> exact h) ?_
              simp only [opersAt, List.getElem?_toArray, List.getElem?_cons_zero, List.getElem?_cons_succ]
              repeat (go_big_quiet_step (fail))
              refine wpQuiet_nil ?_
              refine mixT_one (k := 12) (by kernel_rfl) rfl ?_
              go_wp2
              refine ⟨Or.inr (by intros; exact ⟨⟨_, hbw.alloc hzz _⟩, rfl⟩), ?_⟩
              refine mixT_one (k := 13) (by kernel_rfl) rfl ?_
              go_wp2
              first
                | refine ⟨Or.inl (by kernel_rfl), ?_⟩
                | skip
              refine mixT_one (k := 14) (by kernel_rfl) rfl ?_
              go_wp2
              first
                | refine ⟨Or.inr (fun h => h), ?_⟩
                | skip
              refine mixT_nil (by kernel_rfl) ?_
              go_wp2
              go_meet
              case rel => exact ⟨_, rfl, rfl, heap_alloc_at _ _, hbw.alloc hzz _⟩
            · go_wp2
              have hb0 : Below V1.heap.size V1 (V1.drew.alloc (.cells (resCs res0) 92)) := (Below.refl _ _).drew.alloc (Nat.le_refl _) _
              refine ⟨Or.inr (by intros; exact ⟨⟨_, hb0⟩, rfl⟩), ?_⟩
              refine mixT_one (k := 8) (by kernel_rfl) rfl ?_
              go_wp2_with (go_at_call 182; refine (HSC.out _ hb0).mono ?_; rintro e w2 ⟨rfl, hb1⟩)
              have hbw : Below V1.heap.size V1 w2 := hb0.trans (hb1.mono hb0.size)
              refine ⟨Or.inr (by intros; exact ⟨⟨_, hbw⟩, rfl⟩), ?_⟩
              have hgb : w2.heap[V1.heap.size]? = some (.cells (resCs res0) 92 (0, 0)) := (hb1.block _ (by simp)).trans (heap_alloc_at _ _)
              have hwg : whole w2 V1.heap.size 6 = true := whole_blk hgb
              have hgl := blk_lt hgb
              refine mixT_slots [9, 10, 11] (fuel := 2) rfl (by kernel_rfl) (by kernel_rfl) (fun d _ _ _ _ h => by cases d <;> exact h) ?_
              simp only [opersAt, List.getElem?_toArray, List.getElem?_cons_zero, List.getElem?_cons_succ]
              repeat (go_big_quiet_step (fail))
              refine wpQuiet_nil ?_
              refine mixT_one (k := 13) (by kernel_rfl) rfl ?_
              go_wp2
              first
                | refine ⟨Or.inl (by kernel_rfl), ?_⟩
                | skip
              refine mixT_one (k := 14) (by kernel_rfl) rfl ?_
              go_wp2
              first
                | refine ⟨Or.inr (fun h => h), ?_⟩
                | skip
              refine mixT_nil (by kernel_rfl) ?_
              go_wp2
              go_meet
              case rel => exact ⟨_, rfl, rfl, heap_setRow_at hgb, hbw.trans (below_setRow' _ _ (Nat.le_refl _))⟩
          case rest =>

          as_aux_lemma =>
          obtain ⟨N, rfl, rfl, HKN, HV2⟩ := hcut
          generalize wc = V2 at *
          have HRV2 := hide (HRV.out.next HV2.out)
          have HOV2 := hide (HOV.out.below HV2.out (Nat.le_refl _))
          have hzV2 := HV2.out.size
          have HBV2 := hide (HBV.out.low (HV2.out.mono (by omega)) (by omega))
          have HM2 := hide (HH.out.at'.below HRV2.out.blw)
          have g5 : rng V2 M 5 3 = some #[s1, .slice ra q rcap, s3] := by have := HM2.out.lb.sm; simpa using this
          have HKR2 := hide ((HV2.out.block _ zD).trans HKR.out)
          have d0 : V2.cell? ⟨DK, 0, none⟩ = some (.int .u32 kr.sample) := cells_all HKR2.out 0
          have zM2 : M < V2.heap.size := by omega
          have zD2 := blk_lt HKR2.out
          have HSC : Hid (∀ V, Below V2.heap.size V2 V → Calls Tryz.prog 28 #[.agg #[s1, .slice ra q rcap, s3], .int .u32 kr.sample] V fun e w' => e = .returned (.tuple #[.agg (smpCs sm), .bool true]) ∧ Below V.heap.size V w') := fun V hb => by
            have := smpGet_calls V ok _ _ _ m.low.sm kr.sample ((HM2.out.inn.low.below hb).sm)
            rw [HSM.out] at this
            exact this
          clear HRV HOV HBV HM1 HKR d1 zM1 zD hzV1
          go_upto_region 59 with fail
          go_cut [29, 30] (fun pv bv V => ∃ N, pv = .pointer (some ⟨N, 0, none⟩) ∧ bv = .bool true ∧ Hid (V.heap[N]? = some (.cells (smpCs sm) 94 (0, 0))) ∧ Hid (Below V2.heap.size V2 V))
          case first =>
            as_aux_lemma =>
            refine wp_region_mixT (V2.heap.size) [3, 5] (by kernel_rfl) ?_
            refine mixT_slots [0, 1, 2, 4] (fuel := 9) rfl (by kernel_rfl) (by kernel_rfl) (fun d _ _ _ _ h => by cases d <;> exact h) ?_
            simp only [opersAt, List.getElem?_toArray, List.getElem?_cons_zero, List.getElem?_cons_succ]
            repeat (go_big_quiet_step (fail))
            refine wpQuiet_nil ?_
            refine mixT_reads [3, 5] (fuel := 7) rfl (by kernel_rfl) (by decide) (by kernel_rfl) (fun d _ _ _ _ h => by cases d <;> exact h) (ext_drew _ _) ?_
            simp only [opersAt, List.getElem?_toArray, List.getElem?_cons_zero, List.getElem?_cons_succ]
            repeat (go_big_quiet_step (fail))
            refine wpQuiet_nil ?_
            refine mixT_two (k := 6) (k' := 10) (by kernel_rfl) rfl rfl ?_ ?_
            · go_wp2_with (go_at_call 28; refine (HSC.out _ (Below.refl _ _).drew).mono ?_; rintro e w2 ⟨rfl, hb1⟩)
              have hbw : Below V2.heap.size V2 w2 := (Below.refl _ _).drew.trans hb1
              refine ⟨Or.inr (by intros; exact ⟨⟨_, hbw⟩, rfl⟩), ?_⟩
              have hzz := hbw.size
              refine mixT_slots [7, 8, 9] (fuel := 3) rfl (by kernel_rfl) (by kernel_rfl) (fun d _ _ _ _ h => by cases d <;> exact h) ?_
              simp only [opersAt, List.getElem?_toArray, List.getElem?_cons_zero, List.getElem?_cons_succ]
              repeat (go_big_quiet_step (fail))
              refine wpQuiet_nil ?_
              refine mixT_one (k := 10) (by kernel_rfl) rfl ?_
              go_wp2
              refine ⟨Or.inr (by intros; exact ⟨⟨_, hbw.alloc hzz _⟩, rfl⟩), ?_⟩
              refine mixT_one (k := 11) (by kernel_rfl) rfl ?_
              go_wp2
              first
                | refine ⟨Or.inl (by kernel_rfl), ?_⟩
                | skip
              refine mixT_one (k := 12) (by kernel_rfl) rfl ?_
              go_wp2
              first
                | refine ⟨Or.inr (fun h => h), ?_⟩
                | skip
              refine mixT_nil (by kernel_rfl) ?_
              go_wp2
              go_meet
              case rel => exact ⟨_, rfl, rfl, heap_alloc_at _ _, hbw.alloc hzz _⟩
            · go_wp2
              have hb0 : Below V2.heap.size V2 (V2.drew.alloc (.cells (smpCs smp0) 94)) := (Below.refl _ _).drew.alloc (Nat.le_refl _) _
              refine ⟨Or.inr (by intros; exact ⟨⟨_, hb0⟩, rfl⟩), ?_⟩
              refine mixT_one (k := 6) (by kernel_rfl) rfl ?_
              go_wp2_with (go_at_call 28; refine (HSC.out _ hb0).mono ?_; rintro e w2 ⟨rfl, hb1⟩)
              have hbw : Below V2.heap.size V2 w2 := hb0.trans (hb1.mono hb0.size)
              refine ⟨Or.inr (by intros; exact ⟨⟨_, hbw⟩, rfl⟩), ?_⟩
              have hgb : w2.heap[V2.heap.size]? = some (.cells (smpCs smp0) 94 (0, 0)) := (hb1.block _ (by simp)).trans (heap_alloc_at _ _)
              have hwg : whole w2 V2.heap.size 8 = true := whole_blk hgb
              have hgl := blk_lt hgb
              refine mixT_slots [7, 8, 9] (fuel := 2) rfl (by kernel_rfl) (by kernel_rfl) (fun d _ _ _ _ h => by cases d <;> exact h) ?_
              simp only [opersAt, List.getElem?_toArray, List.getElem?_cons_zero, List.getElem?_cons_succ]
              repeat (go_big_quiet_step (fail))
              refine wpQuiet_nil ?_
              refine mixT_one (k := 11) (by kernel_rfl) rfl ?_
              go_wp2
              first
                | refine ⟨Or.inl (by kernel_rfl), ?_⟩
                | skip
              refine mixT_one (k := 12) (by kernel_rfl) rfl ?_
              go_wp2
              first
                | refine ⟨Or.inr (fun h => h), ?_⟩
                | skip
              refine mixT_nil (by kernel_rfl) ?_
              go_wp2
              go_meet
              case rel => exact ⟨_, rfl, rfl, heap_setRow_at hgb, hbw.trans (below_setRow' _ _ (Nat.le_refl _))⟩
          case rest =>

          as_aux_lemma =>
          obtain ⟨N2, rfl, rfl, HKS, HV3⟩ := hcut
          generalize wc = V3 at *
          have HRV3 := hide (HRV2.out.next HV3.out)
          have HOV3 := hide (HOV2.out.below HV3.out (Nat.le_refl _))
          have HBV3 := hide (HBV2.out.low (HV3.out.mono (by omega)) (by omega))
          have HM3 := hide (HH.out.at'.below HRV3.out.blw)
          have hkr := (HV3.out.block _ zD2).trans HKR2.out
          have hkn := (HV3.out.block _ (blk_lt HKN.out)).trans HKN.out
          have y1 : rng V3 N2 0 8 = some (smpCs sm) := rng_whole HKS.out
          have y2 : rng V3 N 0 6 = some (resCs y) := rng_whole hkn
          have zN := blk_lt hkn
          have zN2 := blk_lt HKS.out
          have HKR3 := hide hkr
          have HHC := hide (mHolds_calls V3 M 0 ok _ m.low sm y HM3.out.lb HM3.out.inn.low HT1.out.1 HT1.out.2 HT2.out HTV.out)
          have hzV3 : W1.heap.size ≤ V3.heap.size := by have := HV3.out.size; omega
          clear HSC g5 d0 hkr hkn HKS HKN HRV2 HOV2 HBV2 HM2 HKR2 HV3 HV2
          generalize holdsOf m.low sm y = want at *
          cases hw : (want == 0) with
          | true =>
            have HF : Hid ((ks.take (i + 1)).filterMap (mHeldOf m.low) = (ks.take i).filterMap (mHeldOf m.low)) := HTK.out.trans (by rw [hw]; simp)
            go_wp2_with (go_at_call 29; refine HHC.out.mono ?_; rintro e V4 ⟨rfl, hb4⟩)
            go_roundg (q - (i + 1))
            case measure => omega
            case rel => exact ⟨i + 1, n, ha, hc, by omega, rfl, by go_num, by omega, by rw [HF.out]; exact HNN, HRV3.out.next hb4, by rw [HF.out]; exact HOV3.out.below hb4 (Nat.le_refl _), HBV3.out.low (hb4.mono hzV3) (by omega)⟩
          | false =>
            have HF : Hid ((ks.take (i + 1)).filterMap (mHeldOf m.low) = (ks.take i).filterMap (mHeldOf m.low) ++ [⟨kr.sample, kr.analyte, want⟩]) := HTK.out.trans (by rw [hw]; rfl)
            generalize (ks.take i).filterMap (mHeldOf m.low) = hs at *
            go_upto_region 62 with (go_at_call 29; refine HHC.out.mono ?_; rintro e V4 ⟨rfl, hb4⟩)
            have H4 := hide (HRV3.out.next hb4)
            have HO4 := hide (HOV3.out.below hb4 (Nat.le_refl _))
            have hz4 := hb4.size
            have HB4 := hide (HBV3.out.low (hb4.mono hzV3) (by omega))
            have hkr := (hb4.block _ (blk_lt HKR3.out)).trans HKR3.out
            have d0 : V4.cell? ⟨DK, 0, none⟩ = some (.int .u32 kr.sample) := cells_all hkr 0
            have d1 : V4.cell? ⟨DK, 1, none⟩ = some (.int .u32 kr.analyte) := cells_all hkr 1
            have zD4 := blk_lt hkr
            have c39 := H4.out.facts.2.2.2.1 39
            simp only [respCs, List.getElem?_toArray, List.getElem?_cons_zero, List.getElem?_cons_succ] at c39
            have g39 := H4.out.facts.2.2.2.2.1 39
            have hz9 := H4.out.facts.2.2.2.2.2
            clear hkr HKR3 hb4 y1 y2
            go_upto_region 63 with (at_builtin; refine wpList_app1 (α := HeldR) rfl _ _ 73 rfl W1.heap.size 101 heldCs Tryz.underlying73 Tryz.info101_z rfl (by decide) heldCs_size heldCs_one (.slice ha n hc) hs rfl (OwnR.below HO4.out ((Below.refl _ _).alloc (Nat.le_refl _) _) (Nat.le_refl _)) _ rfl ⟨kr.sample, kr.analyte, want⟩ (rng_whole (heap_alloc_at _ _)) (by rw [← HNN.out]; omega) (by rw [← HNN.out]; unfold maxLen; omega) (by simp only [World.size_alloc]; omega) ?_; intro v8 w8 hown8 hsame8 hbel8 hat8; obtain ⟨a8, c8, hv8⟩ := hown8.form; rw [List.length_append, ← HNN.out, List.length_singleton] at hv8; subst hv8; have hb8 : Below W1.heap.size V4 w8 := ((Below.refl _ _).alloc (by omega) _).trans hbel8; have H8 := hide (H4.out.low (hb8.mono (by omega))); have c39' := H8.out.facts.2.2.2.1 39; simp only [respCs, List.getElem?_toArray, List.getElem?_cons_zero, List.getElem?_cons_succ] at c39'; have g39' := H8.out.facts.2.2.2.2.1 39; have HB8 := hide (HB4.out.low hb8 (by omega)); have HO8 := hide hown8; clear c39 g39 hown8 hsame8 hbel8 hat8 hb8)
            have H9 := hide (H8.out.cell (j := 39) (v := .slice a8 (n + 1) c8) { rsp0 with held := (a8, n + 1, c8) } rfl)
            have HB9 : Hid (But (w.heap.size + 2) W1 (w8.setCell ⟨w.heap.size + 2, 39, none⟩ (.slice a8 (n + 1) c8))) := HB8.out.trans' (But.set _ _)
            have HO9 : Hid (OwnR (w8.setCell ⟨w.heap.size + 2, 39, none⟩ (.slice a8 (n + 1) c8)) W1.heap.size 101 3 heldCs (.slice a8 (n + 1) c8) (hs ++ [⟨kr.sample, kr.analyte, want⟩])) := HO8.out.mono fun b hb => Below.heap_setCell _ _ _ _ (fun e => by have := (HO8.out.block b hb).1; simp at e; omega)
            generalize World.setCell _ _ _ = W9 at *
            clear c39' g39'
            go_wp2
            go_roundg (q - (i + 1))
            case measure => omega
            case rel => exact ⟨i + 1, n + 1, a8, c8, by omega, rfl, by go_num, by omega, by rw [HF.out]; show _ = _; rw [List.length_append, ← HNN.out]; rfl, H9, by rw [HF.out]; exact HO9, HB9⟩
        · obtain rfl : i = q := by omega
          rw [List.take_of_length_le (by rw [HLK.out]; omega)] at HNN HOW
          rw [← HHL.out] at HOW
          go_upto_region 66 with fail
          obtain ⟨h1, h2, -, -, -, -⟩ := HRB1.out.facts
          go_wp2
          obtain ⟨f1, f2⟩ := HRB1.out.fin (y := { rsp0 with held := (ha, n, hc) })
          refine bodyPost_ret (results_cell1 Tryz.results145 _ _ (w.heap.size + 1) _ _ _ _ rfl f1 Tryz.underlying75 rfl (by kernel_rfl)) rfl ?_
          rw [HRD.out]
          exact ⟨⟨_, rfl, ha, n, hc, rfl, (HOW.out.mono fun b hb => setRow_other _ _ _ _ (by have := (HOW.out.block b hb).1; omega)).lower (by omega)⟩, f2⟩
end Go.Proofs.Qxb6500666aGreatDoor
