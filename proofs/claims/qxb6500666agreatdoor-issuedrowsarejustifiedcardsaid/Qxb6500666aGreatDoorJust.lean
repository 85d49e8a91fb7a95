/- justified: a released row against the model's lists of facts. (Made by tools/mk_just.py.) -/
import Derived.Test.Qxb6500666aGreatDoorMdM
import Derived.Test.Qxb6500666aGreatDoorJustD
import Derived.Deep.CutBlock
namespace Go.Proofs.Qxb6500666aGreatDoor
open Go.RowKit
theorem any_take {α : Type} {P : α → Bool} {l : List α} {q : Nat} (h : q < l.length) : (l.take (q + 1)).any P = ((l.take q).any P || P l[q]) := by
  rw [List.take_succ_eq_append_getElem h, List.any_append]
  simp
theorem fold_take {α β : Type} {f : β → α → β} {z : β} {l : List α} {q : Nat} (h : q < l.length) : (l.take (q + 1)).foldl f z = f ((l.take q).foldl f z) l[q] := by
  rw [List.take_succ_eq_append_getElem h, List.foldl_append]
  rfl
theorem inForceN_succ {zs : List VZ} {m : Int} {q : Nat} (h : q < zs.length) : inForceN (zs.map (fun x => (x.eff, x.vis))) m (q + 1) = if zs[q].eff ≤ m then (q : Int) + 1 else inForceN (zs.map (fun x => (x.eff, x.vis))) m q := by
  rw [inForceN]
  simp [h]
theorem Tryz.size48_j (w : World) : (sizeOf 48).run Tryz.prog w = .ok 1 w := by kernel_rfl
attribute [local go_sem] ext_const Ext.cell Ext.frozen Ext.rng Ext.whole
attribute [local go_sem ↓] exec_ldKit exec_stKit exec_ldSbj exec_stSbj exec_ldSmp exec_stSmp exec_ldRes exec_stRes exec_ldVsn exec_stVsn exec_ldAna exec_stAna exec_ldQry exec_stQry
attribute [local go_sem] run_ldKit run_stKit kitCs_size kitCs_ones run_ldSbj run_stSbj sbjCs_size sbjCs_ones run_ldSmp run_stSmp smpCs_size smpCs_ones run_ldRes run_stRes resCs_size resCs_ones run_ldVsn run_stVsn vzCs_size run_ldAna run_stAna anaCs_size anaCs_ones run_ldQry run_stQry qryCs_size qryCs_ones whole_alloc_lt whole_alloc_at whole_drew setRow_alloc_at setRow_alloc_lt setRow_drew rng_alloc_lt rng_alloc_at rng_drew rng_drewN
set_option maxRecDepth 100000 in
set_option maxHeartbeats 16000000 in
theorem just_calls (w : World) (M : Nat) (ok : Nat → Prop) (v : MV) (m : Mod) (row : Row) (h : MAt w M ok v m) (hver : m.low.pr.ver.length ≤ 1000000) (hc : 0 ≤ row.collected ∧ row.collected ≤ 157785119) (hr : 0 ≤ row.received ∧ row.received ≤ 157785119) (ht : 0 ≤ row.tested ∧ row.tested ≤ 157785119) :
    Calls Tryz.prog 43 #[.pointer (some ⟨M, 0, none⟩), .agg (rowCs row)] w fun e w' => e = .returned (.bool (justB m.low row)) ∧ Below w.heap.size w w' := by
  have HM := hide h
  have zM := blk_lt h.top
  obtain ⟨hc0, hc1⟩ := hc
  obtain ⟨hr0, hr1⟩ := hr
  obtain ⟨ht0, ht1⟩ := ht
  obtain ⟨R, hR⟩ : ∃ R, R = justB m.low row := ⟨_, rfl⟩
  rw [← hR]
  have HR := hide hR
  clear h hR
  obtain ⟨⟨p0, p1, p2, p3, kv, s1, s2, s3⟩, vu, va, vf⟩ := v
  go_enter Tryz.func43, Tryz.ntmps43
  go_upto_region 2 with fail
  have hb0 : Below w.heap.size w (w.alloc (.cells (rowCs row) 109)) := (Below.refl _ _).alloc (Nat.le_refl _) _
  have hk0 : (w.alloc (.cells (rowCs row) 109)).heap[w.heap.size]? = some (.cells (rowCs row) 109 (0, 0)) := heap_alloc_at _ _
  generalize w.alloc (.cells (rowCs row) 109) = W0 at *
  have HB0 := hide hb0
  have HK0 := hide hk0
  have hzW := hb0.size
  have zG := blk_lt hk0
  obtain ⟨GG, hG⟩ : ∃ GG, w.heap.size = GG := ⟨_, rfl⟩
  rw [hG] at HK0 HB0 hzW zG zM ⊢
  have HG := hide hG
  clear hb0 hk0 hG
  have HFA : Hid (∀ V, Below W0.heap.size W0 V → MAt V M ok ⟨⟨p0, p1, p2, p3, kv, s1, s2, s3⟩, vu, va, vf⟩ m ∧ V.heap[GG]? = some (.cells (rowCs row) 109 (0, 0)) ∧ GG < V.heap.size ∧ M < V.heap.size ∧ Below GG w V) := fun V hV => by
    have hw : Below GG w V := HB0.out.trans (hV.mono hzW)
    have hw2 : Below w.heap.size w V := by rw [HG.out]; exact hw
    have h2 := HM.out.below hw2
    exact ⟨h2, (hV.block _ zG).trans HK0.out, Nat.lt_of_lt_of_le zG hV.size, blk_lt h2.top, hw⟩
  have HBW := hide (Below.refl W0.heap.size W0)
  obtain ⟨hM1, hk1, zG1, zM1, hw1⟩ := HFA.out _ HBW.out
  obtain ⟨la, lcap, lb, loff, hle, hll, hlm, hlr, hla, hlc⟩ := RArr.lt hM1.inn.low.kit
  obtain ⟨n, hn⟩ : ∃ n, n = m.low.kit.length := ⟨_, rfl⟩
  have HN := hide hn
  rw [← hn] at hle hll hlr hla
  have cl : W0.cell? ⟨M, 4, none⟩ = some (.slice la n lcap) := by rw [← hle]; exact cells_all hM1.top 4
  have hi := run_indexAt_arr (P := Tryz.prog) (n := n) (cap := lcap) Tryz.underlying33 Tryz.size202 (fun h => (hla h).1)
  have HLB : Hid (0 < n → lb < W0.heap.size) := fun h => (hla h).2.2
  have HLC := hide hlc
  clear hM1 hk1 hla hlc hn hlm hll hle hw1
  go_upto_block 0 with fail
  clear cl
  go_cut [5] (fun bv W => bv = .bool (m.low.kit.any (shipJ row)) ∧ Hid (Below W0.heap.size W0 W))
  case first => as_aux_lemma =>
    go_upto_region 3 with fail
    have HB1 := hide (Below.refl W0.heap.size W0)
    go_loopg [5, 35] n (fun gk bv j W => ∃ (q : Nat) (B : Bool), q ≤ n ∧ gk = n - q ∧ bv = .bool B ∧ j = .int .i64 q ∧ Hid (B = (m.low.kit.take q).any (shipJ row)) ∧ Hid (Below W0.heap.size W0 W))
    case atStart => exact ⟨0, false, by omega, by omega, rfl, rfl, rfl, HB1⟩
    clear HB1
    case round =>
      obtain ⟨q, B, hq, rfl, rfl, rfl, HBE, HBR⟩ := hrel
      by_cases hlt : q < n
      · have hqs : q < m.low.kit.length := by rw [← HN.out]; exact hlt
        have hbb := HLB.out (by omega)
        have c0 := HLC.out q hqs
        rw [← rng_of_block (HBR.out.block _ hbb)] at c0
        have hbw : lb < wr.heap.size := by have := HBR.out.size; omega
        have HTK := hide (any_take (P := shipJ row) hqs)
        generalize m.low.kit[q] = y at *
        go_upto_region 5 with fail
        have hb2 : Below wr.heap.size wr (wr.alloc (.cells (kitCs y) 202)) := (Below.refl _ _).alloc (Nat.le_refl _) _
        have hky : (wr.alloc (.cells (kitCs y) 202)).heap[wr.heap.size]? = some (.cells (kitCs y) 202 (0, 0)) := heap_alloc_at _ _
        generalize wr.alloc (.cells (kitCs y) 202) = V1 at *
        have HV1 : Hid (Below W0.heap.size W0 V1) := HBR.out.trans (hb2.mono HBR.out.size)
        obtain ⟨-, hrw, zG2, zM2, -⟩ := HFA.out _ (HBW.out.trans (HV1.out.mono HBW.out.size))
        have HRW := hide hrw
        have r8 : V1.cell? ⟨GG, 8, none⟩ = some (.int .u32 row.kit) := cells_all HRW.out 8
        have r5 : V1.cell? ⟨GG, 5, none⟩ = some (.int .u32 row.site) := cells_all HRW.out 5
        have e0 : V1.cell? ⟨wr.heap.size, 0, none⟩ = some (.int .u32 y.id) := cells_all hky 0
        have e1 : V1.cell? ⟨wr.heap.size, 1, none⟩ = some (.int .u32 y.site) := cells_all hky 1
        have zD := blk_lt hky
        clear c0 hbw hb2 hky HBR hrw
        generalize wr.heap.size = D at *
        cases t1 : (y.id == row.kit) with
        | false =>
          have HF : Hid ((m.low.kit.take (q + 1)).any (shipJ row) = B) := HTK.out.trans (by rw [← HBE.out, show shipJ row y = false by unfold shipJ; simp [t1]]; simp)
          go_wp2
          go_roundg (n - (q + 1))
          case measure => omega
          case rel => exact ⟨q + 1, B, by omega, rfl, rfl, by go_num, HF.out.symm, HV1⟩
        | true =>
          cases t2 : (y.site == row.site) with
          | false =>
            have HF : Hid ((m.low.kit.take (q + 1)).any (shipJ row) = B) := HTK.out.trans (by rw [← HBE.out, show shipJ row y = false by unfold shipJ; simp [t1, t2]]; simp)
            go_wp2
            go_roundg (n - (q + 1))
            case measure => omega
            case rel => exact ⟨q + 1, B, by omega, rfl, rfl, by go_num, HF.out.symm, HV1⟩
          | true =>
            cases t3 : (y.site == 0) with
            | true =>
              have HF : Hid ((m.low.kit.take (q + 1)).any (shipJ row) = B) := HTK.out.trans (by rw [← HBE.out, show shipJ row y = false by unfold shipJ; simp [t1, t2, t3]]; simp)
              go_wp2
              go_roundg (n - (q + 1))
              case measure => omega
              case rel => exact ⟨q + 1, B, by omega, rfl, rfl, by go_num, HF.out.symm, HV1⟩
            | false =>
              have HF : Hid ((m.low.kit.take (q + 1)).any (shipJ row) = true) := HTK.out.trans (by rw [show shipJ row y = true by unfold shipJ; simp [t1, t2, t3]]; simp)
              go_wp2
              go_roundg (n - (q + 1))
              case measure => omega
              case rel => exact ⟨q + 1, true, by omega, rfl, rfl, by go_num, HF.out.symm, HV1⟩
      · obtain rfl : q = n := by omega
        rw [List.take_of_length_le (by rw [← HN.out]; omega)] at HBE
        go_wp2
        go_meet
        case rel => exact ⟨by rw [HBE.out], HBR⟩
  case rest =>
  as_aux_lemma =>
  obtain ⟨rfl, HBC⟩ := hcut
  have HBW := hide (HBW.out.trans (HBC.out.mono HBW.out.size))
  generalize wc = W1 at *
  clear HBC hi HLB HLC HN
  generalize hb0 : m.low.kit.any (shipJ row) = b0 at *
  have HB1e := hide hb0
  clear hb0 hlr zG1 zM1
  obtain ⟨hM1, hk1, zG1, zM1, hw1⟩ := HFA.out _ HBW.out
  obtain ⟨la, lcap, lb, loff, hle, hll, hlm, hlr, hla, hlc⟩ := RArr.lt hM1.inn.low.pr.u
  obtain ⟨n, hn⟩ : ∃ n, n = m.low.pr.sub.length := ⟨_, rfl⟩
  have HN := hide hn
  rw [← hn] at hle hll hlr hla
  have cl : W1.cell? ⟨M, 3, none⟩ = some (.slice la n lcap) := by rw [← hle]; exact cells_all hM1.top 3
  have hi := run_indexAt_arr (P := Tryz.prog) (n := n) (cap := lcap) Tryz.underlying30 Tryz.size200 (fun h => (hla h).1)
  have HLB : Hid (0 < n → lb < W1.heap.size) := fun h => (hla h).2.2
  have HLC := hide hlc
  clear hM1 hk1 hla hlc hn hlm hll hle hw1
  go_upto_block 2 with fail
  clear cl
  go_cut [6] (fun bv W => bv = .bool (m.low.pr.sub.any (enrJ row)) ∧ Hid (Below W1.heap.size W1 W))
  case first => as_aux_lemma =>
    go_upto_region 9 with fail
    have HB1 := hide (Below.refl W1.heap.size W1)
    go_loopg [6, 63] n (fun gk bv j W => ∃ (q : Nat) (B : Bool), q ≤ n ∧ gk = n - q ∧ bv = .bool B ∧ j = .int .i64 q ∧ Hid (B = (m.low.pr.sub.take q).any (enrJ row)) ∧ Hid (Below W1.heap.size W1 W))
    case atStart => exact ⟨0, false, by omega, by omega, rfl, rfl, rfl, HB1⟩
    clear HB1
    case round =>
      obtain ⟨q, B, hq, rfl, rfl, rfl, HBE, HBR⟩ := hrel
      by_cases hlt : q < n
      · have hqs : q < m.low.pr.sub.length := by rw [← HN.out]; exact hlt
        have hbb := HLB.out (by omega)
        have c0 := HLC.out q hqs
        rw [← rng_of_block (HBR.out.block _ hbb)] at c0
        have hbw : lb < wr.heap.size := by have := HBR.out.size; omega
        have HTK := hide (any_take (P := enrJ row) hqs)
        generalize m.low.pr.sub[q] = y at *
        go_upto_region 11 with fail
        have hb2 : Below wr.heap.size wr (wr.alloc (.cells (sbjCs y) 200)) := (Below.refl _ _).alloc (Nat.le_refl _) _
        have hky : (wr.alloc (.cells (sbjCs y) 200)).heap[wr.heap.size]? = some (.cells (sbjCs y) 200 (0, 0)) := heap_alloc_at _ _
        generalize wr.alloc (.cells (sbjCs y) 200) = V1 at *
        have HV1 : Hid (Below W1.heap.size W1 V1) := HBR.out.trans (hb2.mono HBR.out.size)
        obtain ⟨-, hrw, zG2, zM2, -⟩ := HFA.out _ (HBW.out.trans (HV1.out.mono HBW.out.size))
        have HRW := hide hrw
        have r4 : V1.cell? ⟨GG, 4, none⟩ = some (.int .u32 row.subject) := cells_all HRW.out 4
        have r5 : V1.cell? ⟨GG, 5, none⟩ = some (.int .u32 row.site) := cells_all HRW.out 5
        have e0 : V1.cell? ⟨wr.heap.size, 0, none⟩ = some (.int .u32 y.id) := cells_all hky 0
        have e1 : V1.cell? ⟨wr.heap.size, 1, none⟩ = some (.int .u32 y.site) := cells_all hky 1
        have zD := blk_lt hky
        clear c0 hbw hb2 hky HBR hrw
        generalize wr.heap.size = D at *
        cases t1 : (y.id == row.subject) with
        | false =>
          have HF : Hid ((m.low.pr.sub.take (q + 1)).any (enrJ row) = B) := HTK.out.trans (by rw [← HBE.out, show enrJ row y = false by unfold enrJ; simp [t1]]; simp)
          go_wp2
          go_roundg (n - (q + 1))
          case measure => omega
          case rel => exact ⟨q + 1, B, by omega, rfl, rfl, by go_num, HF.out.symm, HV1⟩
        | true =>
          cases t2 : (y.site == row.site) with
          | false =>
            have HF : Hid ((m.low.pr.sub.take (q + 1)).any (enrJ row) = B) := HTK.out.trans (by rw [← HBE.out, show enrJ row y = false by unfold enrJ; simp [t1, t2]]; simp)
            go_wp2
            go_roundg (n - (q + 1))
            case measure => omega
            case rel => exact ⟨q + 1, B, by omega, rfl, rfl, by go_num, HF.out.symm, HV1⟩
          | true =>
            have HF : Hid ((m.low.pr.sub.take (q + 1)).any (enrJ row) = true) := HTK.out.trans (by rw [show enrJ row y = true by unfold enrJ; simp [t1, t2]]; simp)
            go_wp2
            go_roundg (n - (q + 1))
            case measure => omega
            case rel => exact ⟨q + 1, true, by omega, rfl, rfl, by go_num, HF.out.symm, HV1⟩
      · obtain rfl : q = n := by omega
        rw [List.take_of_length_le (by rw [← HN.out]; omega)] at HBE
        go_wp2
        go_meet
        case rel => exact ⟨by rw [HBE.out], HBR⟩
  case rest =>
  as_aux_lemma =>
  obtain ⟨rfl, HBC⟩ := hcut
  have HBW := hide (HBW.out.trans (HBC.out.mono HBW.out.size))
  generalize wc = W2 at *
  clear HBC hi HLB HLC HN
  generalize hb1 : m.low.pr.sub.any (enrJ row) = b1 at *
  have HB2e := hide hb1
  clear hb1 hlr zG1 zM1
  obtain ⟨hM1, hk1, zG1, zM1, hw1⟩ := HFA.out _ HBW.out
  obtain ⟨la, lcap, lb, loff, hle, hll, hlm, hlr, hla, hlc⟩ := RArr.lt hM1.inn.low.sm.a
  obtain ⟨n, hn⟩ : ∃ n, n = m.low.sm.ss.length := ⟨_, rfl⟩
  have HN := hide hn
  rw [← hn] at hle hll hlr hla
  have cl : W2.cell? ⟨M, 5, none⟩ = some (.slice la n lcap) := by rw [← hle]; exact cells_all hM1.top 5
  have hi := run_indexAt_arr (P := Tryz.prog) (n := n) (cap := lcap) Tryz.underlying36 Tryz.size94 (fun h => (hla h).1)
  have HLB : Hid (0 < n → lb < W2.heap.size) := fun h => (hla h).2.2
  have HLC := hide hlc
  clear hM1 hk1 hla hlc hn hlm hll hle hw1
  go_upto_block 4 with fail
  clear cl
  go_cut [7] (fun bv W => bv = .bool (m.low.sm.ss.any (recJ row)) ∧ Hid (Below W2.heap.size W2 W))
  case first => as_aux_lemma =>
    go_upto_region 15 with fail
    have HB1 := hide (Below.refl W2.heap.size W2)
    go_loopg [7, 86] n (fun gk bv j W => ∃ (q : Nat) (B : Bool), q ≤ n ∧ gk = n - q ∧ bv = .bool B ∧ j = .int .i64 q ∧ Hid (B = (m.low.sm.ss.take q).any (recJ row)) ∧ Hid (Below W2.heap.size W2 W))
    case atStart => exact ⟨0, false, by omega, by omega, rfl, rfl, rfl, HB1⟩
    clear HB1
    case round =>
      obtain ⟨q, B, hq, rfl, rfl, rfl, HBE, HBR⟩ := hrel
      by_cases hlt : q < n
      · have hqs : q < m.low.sm.ss.length := by rw [← HN.out]; exact hlt
        have hbb := HLB.out (by omega)
        have c0 := HLC.out q hqs
        rw [← rng_of_block (HBR.out.block _ hbb)] at c0
        have hbw : lb < wr.heap.size := by have := HBR.out.size; omega
        have HTK := hide (any_take (P := recJ row) hqs)
        generalize m.low.sm.ss[q] = y at *
        go_upto_region 17 with fail
        have hb2 : Below wr.heap.size wr (wr.alloc (.cells (smpCs y) 94)) := (Below.refl _ _).alloc (Nat.le_refl _) _
        have hky : (wr.alloc (.cells (smpCs y) 94)).heap[wr.heap.size]? = some (.cells (smpCs y) 94 (0, 0)) := heap_alloc_at _ _
        generalize wr.alloc (.cells (smpCs y) 94) = V1 at *
        have HV1 : Hid (Below W2.heap.size W2 V1) := HBR.out.trans (hb2.mono HBR.out.size)
        obtain ⟨-, hrw, zG2, zM2, -⟩ := HFA.out _ (HBW.out.trans (HV1.out.mono HBW.out.size))
        have HRW := hide hrw
        have r0 : V1.cell? ⟨GG, 0, none⟩ = some (.int .u32 row.sample) := cells_all HRW.out 0
        have r8 : V1.cell? ⟨GG, 8, none⟩ = some (.int .u32 row.kit) := cells_all HRW.out 8
        have r4 : V1.cell? ⟨GG, 4, none⟩ = some (.int .u32 row.subject) := cells_all HRW.out 4
        have r6 : V1.cell? ⟨GG, 6, none⟩ = some (.int .u32 row.visit) := cells_all HRW.out 6
        have r9 : V1.cell? ⟨GG, 9, none⟩ = some (.int .u8 row.cls) := cells_all HRW.out 9
        have r10 : V1.cell? ⟨GG, 10, none⟩ = some (.int .i64 row.collected) := cells_all HRW.out 10
        have r11 : V1.cell? ⟨GG, 11, none⟩ = some (.int .i64 row.received) := cells_all HRW.out 11
        have e0 : V1.cell? ⟨wr.heap.size, 0, none⟩ = some (.int .u32 y.id) := cells_all hky 0
        have e1 : V1.cell? ⟨wr.heap.size, 1, none⟩ = some (.int .u32 y.kit) := cells_all hky 1
        have e2 : V1.cell? ⟨wr.heap.size, 2, none⟩ = some (.int .u32 y.subject) := cells_all hky 2
        have e3 : V1.cell? ⟨wr.heap.size, 3, none⟩ = some (.int .u32 y.visit) := cells_all hky 3
        have e4 : V1.cell? ⟨wr.heap.size, 4, none⟩ = some (.int .u8 y.cls) := cells_all hky 4
        have e5 : V1.cell? ⟨wr.heap.size, 5, none⟩ = some (.int .i64 y.collected) := cells_all hky 5
        have e6 : V1.cell? ⟨wr.heap.size, 6, none⟩ = some (.int .i64 y.received) := cells_all hky 6
        have e7 : V1.cell? ⟨wr.heap.size, 7, none⟩ = some (.bool y.exc) := cells_all hky 7
        have zD := blk_lt hky
        clear c0 hbw hb2 hky HBR hrw
        generalize wr.heap.size = D at *
        cases t1 : (y.id == row.sample) with
        | false =>
          have HF : Hid ((m.low.sm.ss.take (q + 1)).any (recJ row) = B) := HTK.out.trans (by rw [← HBE.out, show recJ row y = false by unfold recJ; simp [t1]]; simp)
          go_wp2
          go_roundg (n - (q + 1))
          case measure => omega
          case rel => exact ⟨q + 1, B, by omega, rfl, rfl, by go_num, HF.out.symm, HV1⟩
        | true =>
          cases t2 : (y.kit == row.kit) with
          | false =>
            have HF : Hid ((m.low.sm.ss.take (q + 1)).any (recJ row) = B) := HTK.out.trans (by rw [← HBE.out, show recJ row y = false by unfold recJ; simp [t1, t2]]; simp)
            go_wp2
            go_roundg (n - (q + 1))
            case measure => omega
            case rel => exact ⟨q + 1, B, by omega, rfl, rfl, by go_num, HF.out.symm, HV1⟩
          | true =>
            cases t3 : (y.subject == row.subject) with
            | false =>
              have HF : Hid ((m.low.sm.ss.take (q + 1)).any (recJ row) = B) := HTK.out.trans (by rw [← HBE.out, show recJ row y = false by unfold recJ; simp [t1, t2, t3]]; simp)
              go_wp2
              go_roundg (n - (q + 1))
              case measure => omega
              case rel => exact ⟨q + 1, B, by omega, rfl, rfl, by go_num, HF.out.symm, HV1⟩
            | true =>
              cases t4 : (y.visit == row.visit) with
              | false =>
                have HF : Hid ((m.low.sm.ss.take (q + 1)).any (recJ row) = B) := HTK.out.trans (by rw [← HBE.out, show recJ row y = false by unfold recJ; simp [t1, t2, t3, t4]]; simp)
                go_wp2
                go_roundg (n - (q + 1))
                case measure => omega
                case rel => exact ⟨q + 1, B, by omega, rfl, rfl, by go_num, HF.out.symm, HV1⟩
              | true =>
                cases t5 : (y.cls == row.cls) with
                | false =>
                  have HF : Hid ((m.low.sm.ss.take (q + 1)).any (recJ row) = B) := HTK.out.trans (by rw [← HBE.out, show recJ row y = false by unfold recJ; simp [t1, t2, t3, t4, t5]]; simp)
                  go_wp2
                  go_roundg (n - (q + 1))
                  case measure => omega
                  case rel => exact ⟨q + 1, B, by omega, rfl, rfl, by go_num, HF.out.symm, HV1⟩
                | true =>
                  cases t6 : (y.collected == row.collected) with
                  | false =>
                    have HF : Hid ((m.low.sm.ss.take (q + 1)).any (recJ row) = B) := HTK.out.trans (by rw [← HBE.out, show recJ row y = false by unfold recJ; simp [t1, t2, t3, t4, t5, t6]]; simp)
                    go_wp2
                    go_roundg (n - (q + 1))
                    case measure => omega
                    case rel => exact ⟨q + 1, B, by omega, rfl, rfl, by go_num, HF.out.symm, HV1⟩
                  | true =>
                    cases t7 : (y.received == row.received) with
                    | false =>
                      have HF : Hid ((m.low.sm.ss.take (q + 1)).any (recJ row) = B) := HTK.out.trans (by rw [← HBE.out, show recJ row y = false by unfold recJ; simp [t1, t2, t3, t4, t5, t6, t7]]; simp)
                      go_wp2
                      go_roundg (n - (q + 1))
                      case measure => omega
                      case rel => exact ⟨q + 1, B, by omega, rfl, rfl, by go_num, HF.out.symm, HV1⟩
                    | true =>
                      cases t8 : y.exc with
                      | true =>
                        have HF : Hid ((m.low.sm.ss.take (q + 1)).any (recJ row) = B) := HTK.out.trans (by rw [← HBE.out, show recJ row y = false by unfold recJ; simp [t1, t2, t3, t4, t5, t6, t7, t8]]; simp)
                        go_wp2
                        go_roundg (n - (q + 1))
                        case measure => omega
                        case rel => exact ⟨q + 1, B, by omega, rfl, rfl, by go_num, HF.out.symm, HV1⟩
                      | false =>
                        have HF : Hid ((m.low.sm.ss.take (q + 1)).any (recJ row) = true) := HTK.out.trans (by rw [show recJ row y = true by unfold recJ; simp [t1, t2, t3, t4, t5, t6, t7, t8]]; simp)
                        go_wp2
                        go_roundg (n - (q + 1))
                        case measure => omega
                        case rel => exact ⟨q + 1, true, by omega, rfl, rfl, by go_num, HF.out.symm, HV1⟩
      · obtain rfl : q = n := by omega
        rw [List.take_of_length_le (by rw [← HN.out]; omega)] at HBE
        go_wp2
        go_meet
        case rel => exact ⟨by rw [HBE.out], HBR⟩
  case rest =>
  as_aux_lemma =>
  obtain ⟨rfl, HBC⟩ := hcut
  have HBW := hide (HBW.out.trans (HBC.out.mono HBW.out.size))
  generalize wc = W3 at *
  clear HBC hi HLB HLC HN
  generalize hb2 : m.low.sm.ss.any (recJ row) = b2 at *
  have HB3e := hide hb2
  clear hb2 hlr zG1 zM1
  obtain ⟨hM1, hk1, zG1, zM1, hw1⟩ := HFA.out _ HBW.out
  obtain ⟨la, lcap, lb, loff, hle, hll, hlm, hlr, hla, hlc⟩ := RArr.lt hM1.inn.low.sm.b
  obtain ⟨n, hn⟩ : ∃ n, n = m.low.sm.rs.length := ⟨_, rfl⟩
  have HN := hide hn
  rw [← hn] at hle hll hlr hla
  have cl : W3.cell? ⟨M, 6, none⟩ = some (.slice la n lcap) := by rw [← hle]; exact cells_all hM1.top 6
  have hi := run_indexAt_arr (P := Tryz.prog) (n := n) (cap := lcap) Tryz.underlying37 Tryz.size92 (fun h => (hla h).1)
  have HLB : Hid (0 < n → lb < W3.heap.size) := fun h => (hla h).2.2
  have HLC := hide hlc
  clear hM1 hk1 hla hlc hn hlm hll hle hw1
  go_upto_block 6 with fail
  clear cl
  go_cut [8] (fun bv W => bv = .bool (m.low.sm.rs.any (tstJ row)) ∧ Hid (Below W3.heap.size W3 W))
  case first => as_aux_lemma =>
    go_upto_region 21 with fail
    have HB1 := hide (Below.refl W3.heap.size W3)
    go_loopg [8, 149] n (fun gk bv j W => ∃ (q : Nat) (B : Bool), q ≤ n ∧ gk = n - q ∧ bv = .bool B ∧ j = .int .i64 q ∧ Hid (B = (m.low.sm.rs.take q).any (tstJ row)) ∧ Hid (Below W3.heap.size W3 W))
    case atStart => exact ⟨0, false, by omega, by omega, rfl, rfl, rfl, HB1⟩
    clear HB1
    case round =>
      obtain ⟨q, B, hq, rfl, rfl, rfl, HBE, HBR⟩ := hrel
      by_cases hlt : q < n
      · have hqs : q < m.low.sm.rs.length := by rw [← HN.out]; exact hlt
        have hbb := HLB.out (by omega)
        have c0 := HLC.out q hqs
        rw [← rng_of_block (HBR.out.block _ hbb)] at c0
        have hbw : lb < wr.heap.size := by have := HBR.out.size; omega
        have HTK := hide (any_take (P := tstJ row) hqs)
        generalize m.low.sm.rs[q] = y at *
        go_upto_region 23 with fail
        have hb2 : Below wr.heap.size wr (wr.alloc (.cells (resCs y) 92)) := (Below.refl _ _).alloc (Nat.le_refl _) _
        have hky : (wr.alloc (.cells (resCs y) 92)).heap[wr.heap.size]? = some (.cells (resCs y) 92 (0, 0)) := heap_alloc_at _ _
        generalize wr.alloc (.cells (resCs y) 92) = V1 at *
        have HV1 : Hid (Below W3.heap.size W3 V1) := HBR.out.trans (hb2.mono HBR.out.size)
        obtain ⟨-, hrw, zG2, zM2, -⟩ := HFA.out _ (HBW.out.trans (HV1.out.mono HBW.out.size))
        have HRW := hide hrw
        have r0 : V1.cell? ⟨GG, 0, none⟩ = some (.int .u32 row.sample) := cells_all HRW.out 0
        have r1 : V1.cell? ⟨GG, 1, none⟩ = some (.int .u32 row.analyte) := cells_all HRW.out 1
        have r2 : V1.cell? ⟨GG, 2, none⟩ = some (.int .u32 row.version) := cells_all HRW.out 2
        have r3 : V1.cell? ⟨GG, 3, none⟩ = some (.int .i64 row.value) := cells_all HRW.out 3
        have r12 : V1.cell? ⟨GG, 12, none⟩ = some (.int .i64 row.tested) := cells_all HRW.out 12
        have e0 : V1.cell? ⟨wr.heap.size, 0, none⟩ = some (.int .u32 y.sample) := cells_all hky 0
        have e1 : V1.cell? ⟨wr.heap.size, 1, none⟩ = some (.int .u32 y.analyte) := cells_all hky 1
        have e2 : V1.cell? ⟨wr.heap.size, 2, none⟩ = some (.int .u32 y.version) := cells_all hky 2
        have e3 : V1.cell? ⟨wr.heap.size, 3, none⟩ = some (.int .i64 y.value) := cells_all hky 3
        have e4 : V1.cell? ⟨wr.heap.size, 4, none⟩ = some (.int .i64 y.tested) := cells_all hky 4
        have e5 : V1.cell? ⟨wr.heap.size, 5, none⟩ = some (.bool y.wd) := cells_all hky 5
        have zD := blk_lt hky
        clear c0 hbw hb2 hky HBR hrw
        generalize wr.heap.size = D at *
        cases t1 : (y.sample == row.sample) with
        | false =>
          have HF : Hid ((m.low.sm.rs.take (q + 1)).any (tstJ row) = B) := HTK.out.trans (by rw [← HBE.out, show tstJ row y = false by unfold tstJ; simp [t1]]; simp)
          go_wp2
          go_roundg (n - (q + 1))
          case measure => omega
          case rel => exact ⟨q + 1, B, by omega, rfl, rfl, by go_num, HF.out.symm, HV1⟩
        | true =>
          cases t2 : (y.analyte == row.analyte) with
          | false =>
            have HF : Hid ((m.low.sm.rs.take (q + 1)).any (tstJ row) = B) := HTK.out.trans (by rw [← HBE.out, show tstJ row y = false by unfold tstJ; simp [t1, t2]]; simp)
            go_wp2
            go_roundg (n - (q + 1))
            case measure => omega
            case rel => exact ⟨q + 1, B, by omega, rfl, rfl, by go_num, HF.out.symm, HV1⟩
          | true =>
            cases t3 : (y.version == row.version) with
            | false =>
              have HF : Hid ((m.low.sm.rs.take (q + 1)).any (tstJ row) = B) := HTK.out.trans (by rw [← HBE.out, show tstJ row y = false by unfold tstJ; simp [t1, t2, t3]]; simp)
              go_wp2
              go_roundg (n - (q + 1))
              case measure => omega
              case rel => exact ⟨q + 1, B, by omega, rfl, rfl, by go_num, HF.out.symm, HV1⟩
            | true =>
              cases t4 : (y.value == row.value) with
              | false =>
                have HF : Hid ((m.low.sm.rs.take (q + 1)).any (tstJ row) = B) := HTK.out.trans (by rw [← HBE.out, show tstJ row y = false by unfold tstJ; simp [t1, t2, t3, t4]]; simp)
                go_wp2
                go_roundg (n - (q + 1))
                case measure => omega
                case rel => exact ⟨q + 1, B, by omega, rfl, rfl, by go_num, HF.out.symm, HV1⟩
              | true =>
                cases t5 : (y.tested == row.tested) with
                | false =>
                  have HF : Hid ((m.low.sm.rs.take (q + 1)).any (tstJ row) = B) := HTK.out.trans (by rw [← HBE.out, show tstJ row y = false by unfold tstJ; simp [t1, t2, t3, t4, t5]]; simp)
                  go_wp2
                  go_roundg (n - (q + 1))
                  case measure => omega
                  case rel => exact ⟨q + 1, B, by omega, rfl, rfl, by go_num, HF.out.symm, HV1⟩
                | true =>
                  cases t6 : y.wd with
                  | true =>
                    have HF : Hid ((m.low.sm.rs.take (q + 1)).any (tstJ row) = B) := HTK.out.trans (by rw [← HBE.out, show tstJ row y = false by unfold tstJ; simp [t1, t2, t3, t4, t5, t6]]; simp)
                    go_wp2
                    go_roundg (n - (q + 1))
                    case measure => omega
                    case rel => exact ⟨q + 1, B, by omega, rfl, rfl, by go_num, HF.out.symm, HV1⟩
                  | false =>
                    have HF : Hid ((m.low.sm.rs.take (q + 1)).any (tstJ row) = true) := HTK.out.trans (by rw [show tstJ row y = true by unfold tstJ; simp [t1, t2, t3, t4, t5, t6]]; simp)
                    go_wp2
                    go_roundg (n - (q + 1))
                    case measure => omega
                    case rel => exact ⟨q + 1, true, by omega, rfl, rfl, by go_num, HF.out.symm, HV1⟩
      · obtain rfl : q = n := by omega
        rw [List.take_of_length_le (by rw [← HN.out]; omega)] at HBE
        go_wp2
        go_meet
        case rel => exact ⟨by rw [HBE.out], HBR⟩
  case rest =>
  as_aux_lemma =>
  obtain ⟨rfl, HBC⟩ := hcut
  have HBW := hide (HBW.out.trans (HBC.out.mono HBW.out.size))
  generalize wc = W4 at *
  clear HBC hi HLB HLC HN
  generalize hb3 : m.low.sm.rs.any (tstJ row) = b3 at *
  have HB4e := hide hb3
  clear hb3 hlr zG1 zM1
  obtain ⟨hM1, hk1, zG1, zM1, hw1⟩ := HFA.out _ HBW.out
  obtain ⟨zs, hz1, hz2, hz3⟩ := hM1.inn.low.pr.v
  have HZ2 := hide hz2
  have HZ3 := hide hz3
  obtain ⟨la, lcap, lb, loff, hle, hll, hlm, hlr, hla, hlc⟩ := RArr.lt hz1
  obtain ⟨n, hn⟩ : ∃ n, n = zs.length := ⟨_, rfl⟩
  have HN := hide hn
  have hvl : n = m.low.pr.ver.length := by rw [hn, ← hz2, List.length_map]
  have HVL := hide hvl
  have hnb : n ≤ 1000000 := by omega
  rw [← hn] at hle hll hlr hla
  have cl : W4.cell? ⟨M, 1, none⟩ = some (.slice la n lcap) := by rw [← hle]; exact cells_all hM1.top 1
  have HCL : Hid (∀ V, Below W4.heap.size W4 V → V.cell? ⟨M, 1, none⟩ = some (.slice la n lcap)) := fun V hV => (hV.cell (p := ⟨M, 1, none⟩) zM1).trans cl
  have hi := run_indexAt_arr (P := Tryz.prog) (n := n) (cap := lcap) Tryz.underlying28 Tryz.size193 (fun h => (hla h).1)
  have HLB : Hid (0 < n → lb < W4.heap.size) := fun h => (hla h).2.2
  have HLC := hide hlc
  clear hM1 hk1 hla hlc hn hlm hll hle hw1 hz1 hz2 hz3 hvl hver
  go_upto_block 8 with fail
  clear cl
  obtain ⟨nf, hnf⟩ : ∃ nf, nf = inForce m.low.pr.ver row.collected := ⟨_, rfl⟩
  have hnf2 : nf = inForceN (zs.map (fun x => (x.eff, x.vis))) row.collected n := by rw [hnf, HZ2.out, HVL.out]; rfl
  have HNF := hide hnf
  have HNF2 := hide hnf2
  have hnfb : 0 ≤ nf ∧ nf ≤ n := by rw [hnf2]; exact inForceN_le _ _ _
  obtain ⟨hnf0, hnf1⟩ := hnfb
  clear hnf hnf2
  go_cut [19] (fun iv W => iv = .int .i64 nf ∧ Hid (Below W4.heap.size W4 W))
  case first => as_aux_lemma =>
    go_upto_region 28 with fail
    have HB1 := hide (Below.refl W4.heap.size W4)
    go_loopg [19, 198] n (fun gk iv j W => ∃ (q : Nat) (F : Int), q ≤ n ∧ gk = n - q ∧ iv = .int .i64 F ∧ j = .int .i64 q ∧ Hid (F = inForceN (zs.map (fun x => (x.eff, x.vis))) row.collected q) ∧ Hid (Below W4.heap.size W4 W))
    case atStart => exact ⟨0, 0, by omega, by omega, rfl, rfl, rfl, HB1⟩
    clear HB1
    case round =>
      obtain ⟨q, F, hq, rfl, rfl, rfl, HBE, HBR⟩ := hrel
      by_cases hlt : q < n
      · have hqs : q < zs.length := by rw [← HN.out]; exact hlt
        have hbb := HLB.out (by omega)
        have c0 := HLC.out q hqs
        rw [← rng_of_block (HBR.out.block _ hbb)] at c0
        have hbw : lb < wr.heap.size := by have := HBR.out.size; omega
        have HTK := hide (inForceN_succ (m := row.collected) hqs)
        generalize zs[q] = y at *
        have hvo : ones (vzCs y) 2 = true := by simp [ones, vzCs, sv, Value.oneCell']
        go_upto_region 30 with fail
        have hb2 : Below wr.heap.size wr (wr.alloc (.cells (vzCs y) 193)) := (Below.refl _ _).alloc (Nat.le_refl _) _
        have hky : (wr.alloc (.cells (vzCs y) 193)).heap[wr.heap.size]? = some (.cells (vzCs y) 193 (0, 0)) := heap_alloc_at _ _
        generalize wr.alloc (.cells (vzCs y) 193) = V1 at *
        have HV1 : Hid (Below W4.heap.size W4 V1) := HBR.out.trans (hb2.mono HBR.out.size)
        obtain ⟨-, hrw, zG2, zM2, -⟩ := HFA.out _ (HBW.out.trans (HV1.out.mono HBW.out.size))
        have HRW := hide hrw
        have r10 : V1.cell? ⟨GG, 10, none⟩ = some (.int .i64 row.collected) := cells_all HRW.out 10
        have e0 : V1.cell? ⟨wr.heap.size, 0, none⟩ = some (.int .i64 y.eff) := cells_all hky 0
        have zD := blk_lt hky
        clear c0 hbw hb2 hky HBR hrw hvo
        generalize wr.heap.size = D at *
        cases t1 : decide (y.eff ≤ row.collected) with
        | true =>
          have HF : Hid (inForceN (zs.map (fun x => (x.eff, x.vis))) row.collected (q + 1) = (q : Int) + 1) := HTK.out.trans (if_pos (by simpa using t1))
          go_wp2
          go_roundg (n - (q + 1))
          case measure => omega
          case rel => exact ⟨q + 1, (q : Int) + 1, by omega, rfl, by go_num, by go_num, HF.out.symm, HV1⟩
        | false =>
          have HF : Hid (inForceN (zs.map (fun x => (x.eff, x.vis))) row.collected (q + 1) = F) := HTK.out.trans ((if_neg (by simpa using t1)).trans HBE.out.symm)
          go_wp2
          go_roundg (n - (q + 1))
          case measure => omega
          case rel => exact ⟨q + 1, F, by omega, rfl, rfl, by go_num, HF.out.symm, HV1⟩
      · obtain rfl : q = n := by omega
        go_wp2
        go_meet
        case rel => exact ⟨by rw [HBE.out, HNF2.out], HBR⟩
  case rest =>
  as_aux_lemma =>
  obtain ⟨rfl, HBC⟩ := hcut
  have HBW5 := hide (HBW.out.trans (HBC.out.mono HBW.out.size))
  have hc5 := HCL.out _ HBC.out
  have HLB5 : Hid (0 < n → lb < wc.heap.size) := fun h => Nat.lt_of_lt_of_le (HLB.out h) HBC.out.size
  have HLC5 : Hid (∀ i (h : i < zs.length), rng wc lb (loff + i * 2) 2 = some (vzCs zs[i])) := fun i h => (rng_of_block (HBC.out.block _ (HLB.out (by rw [HN.out]; omega))) _ _).trans (HLC.out i h)
  have HZ5 : Hid (∀ z ∈ zs, U32sAt wc ok (sv z.s) z.vis) := fun z hz => RArr.below (HZ3.out z hz) HBC.out
  generalize wc = W5 at *
  clear HBC HLB HLC HZ3 HBW HCL
  obtain ⟨-, hrw, zG1, zM1, -⟩ := HFA.out _ HBW5.out
  have HRW := hide hrw
  have r7 : W5.cell? ⟨GG, 7, none⟩ = some (.int .u32 row.proto) := cells_all hrw 7
  have hmod : nf % 4294967296 = nf := by omega
  have HVJ : Hid (visJ m.low row = ((decide (0 < nf) && (nf == row.proto)) && (m.low.pr.ver[(nf - 1).toNat]?.getD (0, [])).2.any (fun y => y == row.visit))) := by show visJ m.low row = _; unfold visJ; rw [← HNF.out]
  clear hrw
  go_upto_region 33 with fail
  obtain ⟨vb, hvb⟩ : ∃ vb, vb = (decide (0 < nf) && (nf == row.proto)) := ⟨_, rfl⟩
  have HVB0 := hide hvb
  clear hvb
  go_cut [219] (fun bv W => bv = .bool vb ∧ W5 = W)
  case first => as_aux_lemma =>
    cases t1 : decide (0 < nf) with
    | false =>
      have HF : Hid (vb = false) := HVB0.out.trans (by rw [t1]; rfl)
      go_wp2
      go_meet
      case rel => exact ⟨by rw [HF.out], rfl⟩
    | true =>
      cases t2 : (nf == row.proto) with
      | false =>
        have HF : Hid (vb = false) := HVB0.out.trans (by rw [t1, t2]; rfl)
        go_wp2
        go_meet
        case rel => exact ⟨by rw [HF.out], rfl⟩
      | true =>
        have HF : Hid (vb = true) := HVB0.out.trans (by rw [t1, t2]; rfl)
        go_wp2
        go_meet
        case rel => exact ⟨by rw [HF.out], rfl⟩
  case rest =>
  as_aux_lemma =>
  obtain ⟨rfl, rfl⟩ := hcut
  go_upto_if 219 with fail
  go_cut [9] (fun bv W => bv = .bool (visJ m.low row) ∧ Hid (Below W5.heap.size W5 W))
  case first => as_aux_lemma =>
    rw [← HVB0.out] at HVJ
    cases vb with
    | false =>
      have HF : Hid (visJ m.low row = false) := HVJ.out
      go_wp2
      go_meet
      case rel => exact ⟨by rw [HF.out], Below.refl _ _⟩
    | true =>
        have t1 : decide (0 < nf) = true := by have := HVB0.out; simp at this ⊢; exact this.1
        have hpos : 0 < nf := by simpa using t1
        obtain ⟨i, hi2⟩ : ∃ i : Nat, nf = (i : Int) + 1 := ⟨(nf - 1).toNat, by omega⟩
        have hin : i < n := by omega
        have hiz : i < zs.length := by rw [← HN.out]; exact hin
        have hbb := HLB5.out (by omega)
        have hzv := HZ5.out _ (List.getElem_mem hiz)
        have c0 := HLC5.out i hiz
        have HVV : Hid ((m.low.pr.ver[(nf - 1).toNat]?.getD (0, [])).2 = zs[i].vis) := by
          show _ = _
          rw [← HZ2.out, show (nf - 1).toNat = i by omega, List.getElem?_map, List.getElem?_eq_getElem hiz]
          rfl
        have HF : Hid (visJ m.low row = zs[i].vis.any (fun y => y == row.visit)) := HVJ.out.trans (by rw [HVV.out]; rfl)
        generalize zs[i] = z at *
        obtain ⟨va', vn, vc, hvs, hvsr⟩ := Src.of hzv
        have hix : ∀ W, (Instr.indexAt 28 (.slice la n lcap) (.int .i64 (nf - 1))).run Tryz.prog W = .ok (.pointer (some ⟨lb, loff + i * 2, none⟩)) W := fun W => by
          have h9 := hi W (i : Int) (by omega) (by omega)
          rw [Int.toNat_natCast] at h9
          rw [show nf - 1 = (i : Int) by omega]
          exact h9
        have cz : W5.cell? ⟨lb, loff + i * 2 + 1, none⟩ = some (.slice va' vn vc) := by
          have := (rng_cell c0).2 1 (by decide)
          rw [← hvs]
          simpa [vzCs] using this
        rw [hvs] at hzv
        obtain ⟨va2, vcap2, vb, voff, hve, hvl, hvm, hvr, hva, hvcc⟩ := RArr.lt hzv
        simp only [Value.slice.injEq] at hve
        obtain ⟨rfl, hvn, rfl⟩ := hve
        have HVN := hide hvn
        rw [← hvn] at hvl hvr hva
        have hiv := run_indexAt_arr (P := Tryz.prog) (n := vn) (cap := vc) Tryz.underlying29 Tryz.size48_j (fun h => (hva h).1)
        have HVB : Hid (0 < vn → vb < W5.heap.size) := fun h => (hva h).2.2
        have HVC := hide hvcc
        clear hva hvcc hvm hvl hvn hvs hvsr hzv c0
        go_upto_region 35 with fail
        go_loopg [9, 231] vn (fun gk bv j W => ∃ (q : Nat) (B : Bool), q ≤ vn ∧ gk = vn - q ∧ bv = .bool B ∧ j = .int .i64 q ∧ Hid (B = (z.vis.take q).any (fun y => y == row.visit)) ∧ W5 = W)
        case atStart => exact ⟨0, false, by omega, by omega, rfl, rfl, rfl, rfl⟩
        case round =>
          obtain ⟨q, B, hq, rfl, rfl, rfl, HBE, rfl⟩ := hrel
          by_cases hlt : q < vn
          · have hqs : q < z.vis.length := by rw [← HVN.out]; exact hlt
            have hbv := HVB.out (by omega)
            have c1 := HVC.out q hqs
            have c2 : W5.cell? ⟨vb, voff + q, none⟩ = some (.int .u32 z.vis[q]) := by
              have := (rng_cell c1).2 0 (by decide)
              simpa [u32Cs] using this
            have HTK := hide (any_take (P := fun y => y == row.visit) hqs)
            have r6 : W5.cell? ⟨GG, 6, none⟩ = some (.int .u32 row.visit) := cells_all HRW.out 6
            generalize z.vis[q] = y at *
            cases t3 : (y == row.visit) with
            | false =>
              have HG2 : Hid ((z.vis.take (q + 1)).any (fun y => y == row.visit) = B) := HTK.out.trans (by rw [← HBE.out, t3]; simp)
              go_wp2
              go_roundg (vn - (q + 1))
              case measure => omega
              case rel => exact ⟨q + 1, B, by omega, rfl, rfl, by go_num, HG2.out.symm, rfl⟩
            | true =>
              have HG2 : Hid ((z.vis.take (q + 1)).any (fun y => y == row.visit) = true) := HTK.out.trans (by rw [t3]; simp)
              go_wp2
              go_roundg (vn - (q + 1))
              case measure => omega
              case rel => exact ⟨q + 1, true, by omega, rfl, rfl, by go_num, HG2.out.symm, rfl⟩
          · obtain rfl : q = vn := by omega
            rw [List.take_of_length_le (by rw [← HVN.out]; omega)] at HBE
            go_wp2
            go_meet
            case rel => exact ⟨by rw [HBE.out, HF.out], Below.refl _ _⟩
  case rest =>
  as_aux_lemma =>
  obtain ⟨rfl, HBC⟩ := hcut
  have HBW := hide (HBW5.out.trans (HBC.out.mono HBW5.out.size))
  generalize wc = W6 at *
  clear HBC hi HLB5 HLC5 HZ5 HZ2 HN HVL HNF HNF2 hc5 r7 hmod HVJ HRW HVB0 HBW5 hnf0 hnf1
  generalize hb5 : visJ m.low row = b5 at *
  have HB6e := hide hb5
  clear hb5 hnb hlr zG1 zM1
  obtain ⟨hM1, hk1, zG1, zM1, hw1⟩ := HFA.out _ HBW.out
  obtain ⟨la, lcap, lb, loff, hle, hll, hlm, hlr, hla, hlc⟩ := RArr.lt hM1.inn.low.pr.a
  obtain ⟨n, hn⟩ : ∃ n, n = m.low.pr.ana.length := ⟨_, rfl⟩
  have HN := hide hn
  rw [← hn] at hle hll hlr hla
  have cl : W6.cell? ⟨M, 0, none⟩ = some (.slice la n lcap) := by rw [← hle]; exact cells_all hM1.top 0
  have hi := run_indexAt_arr (P := Tryz.prog) (n := n) (cap := lcap) Tryz.underlying27 Tryz.size197 (fun h => (hla h).1)
  have HLB : Hid (0 < n → lb < W6.heap.size) := fun h => (hla h).2.2
  have HLC := hide hlc
  clear hM1 hk1 hla hlc hn hlm hll hle hw1
  go_upto_block 12 with fail
  clear cl
  go_cut [10] (fun bv W => bv = .bool (m.low.pr.ana.foldl (stabG row) false) ∧ Hid (Below W6.heap.size W6 W))
  case first => as_aux_lemma =>
    go_upto_region 41 with fail
    have HB1 := hide (Below.refl W6.heap.size W6)
    go_loopg [10, 246] n (fun gk bv j W => ∃ (q : Nat) (B : Bool), q ≤ n ∧ gk = n - q ∧ bv = .bool B ∧ j = .int .i64 q ∧ Hid (B = (m.low.pr.ana.take q).foldl (stabG row) false) ∧ Hid (Below W6.heap.size W6 W))
    case atStart => exact ⟨0, false, by omega, by omega, rfl, rfl, rfl, HB1⟩
    clear HB1
    case round =>
      obtain ⟨q, B, hq, rfl, rfl, rfl, HBE, HBR⟩ := hrel
      by_cases hlt : q < n
      · have hqs : q < m.low.pr.ana.length := by rw [← HN.out]; exact hlt
        have hbb := HLB.out (by omega)
        have c0 := HLC.out q hqs
        rw [← rng_of_block (HBR.out.block _ hbb)] at c0
        have hbw : lb < wr.heap.size := by have := HBR.out.size; omega
        have HTK := hide (fold_take (f := stabG row) (z := false) hqs)
        generalize m.low.pr.ana[q] = y at *
        go_upto_region 43 with fail
        have hb2 : Below wr.heap.size wr (wr.alloc (.cells (anaCs y) 197)) := (Below.refl _ _).alloc (Nat.le_refl _) _
        have hky : (wr.alloc (.cells (anaCs y) 197)).heap[wr.heap.size]? = some (.cells (anaCs y) 197 (0, 0)) := heap_alloc_at _ _
        generalize wr.alloc (.cells (anaCs y) 197) = V1 at *
        have HV1 : Hid (Below W6.heap.size W6 V1) := HBR.out.trans (hb2.mono HBR.out.size)
        obtain ⟨-, hrw, zG2, zM2, -⟩ := HFA.out _ (HBW.out.trans (HV1.out.mono HBW.out.size))
        have HRW := hide hrw
        have r1 : V1.cell? ⟨GG, 1, none⟩ = some (.int .u32 row.analyte) := cells_all HRW.out 1
        have r9 : V1.cell? ⟨GG, 9, none⟩ = some (.int .u8 row.cls) := cells_all HRW.out 9
        have r10 : V1.cell? ⟨GG, 10, none⟩ = some (.int .i64 row.collected) := cells_all HRW.out 10
        have r11 : V1.cell? ⟨GG, 11, none⟩ = some (.int .i64 row.received) := cells_all HRW.out 11
        have r12 : V1.cell? ⟨GG, 12, none⟩ = some (.int .i64 row.tested) := cells_all HRW.out 12
        have e0 : V1.cell? ⟨wr.heap.size, 0, none⟩ = some (.int .u32 y.id) := cells_all hky 0
        have HKY := hide hky
        have zD := blk_lt hky
        clear c0 hbw hb2 hky HBR hrw
        generalize wr.heap.size = D at *
        cases t1 : (y.id == row.analyte) with
        | false =>
          have HF : Hid ((m.low.pr.ana.take (q + 1)).foldl (stabG row) false = B) := HTK.out.trans (by rw [← HBE.out]; unfold stabG; rw [show anaJ row y = false by unfold anaJ; simp [t1]]; rfl)
          go_wp2
          go_roundg (n - (q + 1))
          case measure => omega
          case rel => exact ⟨q + 1, B, by omega, rfl, rfl, by go_num, HF.out.symm, HV1⟩
        | true =>
          cases t2 : decide (1 ≤ row.cls) with
          | false =>
            have HF : Hid ((m.low.pr.ana.take (q + 1)).foldl (stabG row) false = B) := HTK.out.trans (by rw [← HBE.out]; unfold stabG; rw [show anaJ row y = false by unfold anaJ; simp [t1, t2]]; rfl)
            go_wp2
            go_roundg (n - (q + 1))
            case measure => omega
            case rel => exact ⟨q + 1, B, by omega, rfl, rfl, by go_num, HF.out.symm, HV1⟩
          | true =>
            cases t3 : decide (row.cls ≤ 3) with
            | false =>
              have HF : Hid ((m.low.pr.ana.take (q + 1)).foldl (stabG row) false = B) := HTK.out.trans (by rw [← HBE.out]; unfold stabG; rw [show anaJ row y = false by unfold anaJ; simp [t1, t2, t3]]; rfl)
              go_wp2
              go_roundg (n - (q + 1))
              case measure => omega
              case rel => exact ⟨q + 1, B, by omega, rfl, rfl, by go_num, HF.out.symm, HV1⟩
            | true =>
              have HTA : Hid ((m.low.pr.ana.take (q + 1)).foldl (stabG row) false = limJ row (anaLim y row.cls)) := HTK.out.trans (by unfold stabG; rw [show anaJ row y = true by unfold anaJ; simp [t1, t2, t3]]; rfl)
              have hcl1 : 1 ≤ row.cls := by simpa using t2
              have hcl2 : row.cls ≤ 3 := by simpa using t3
              have hcm : (row.cls - 1) % 256 = row.cls - 1 := by omega
              obtain ⟨lim, hlim⟩ : ∃ lim, lim = anaLim y row.cls := ⟨_, rfl⟩
              rw [← hlim] at HTA
              have h3 : row.cls = 1 ∨ row.cls = 2 ∨ row.cls = 3 := by omega
              have HLM := hide hlim
              have H3 := hide h3
              clear hlim h3 hcm
              go_upto_region 44 with fail
              go_cut [26] (fun lv W => lv = .int .i64 lim ∧ V1 = W)
              case first => as_aux_lemma =>
                rcases H3.out with e | e | e
                · have e1 : V1.cell? ⟨D, 1, none⟩ = some (.int .i64 lim) := by rw [HLM.out, e]; exact cells_all HKY.out 1
                  go_wp2
                  go_meet
                  case rel => exact ⟨rfl, rfl⟩
                · have e1 : V1.cell? ⟨D, 2, none⟩ = some (.int .i64 lim) := by rw [HLM.out, e]; exact cells_all HKY.out 2
                  go_wp2
                  go_meet
                  case rel => exact ⟨rfl, rfl⟩
                · have e1 : V1.cell? ⟨D, 3, none⟩ = some (.int .i64 lim) := by rw [HLM.out, e]; exact cells_all HKY.out 3
                  go_wp2
                  go_meet
                  case rel => exact ⟨rfl, rfl⟩
              case rest =>
              as_aux_lemma =>
              obtain ⟨rfl, rfl⟩ := hcut
              cases t4 : decide (row.collected ≤ row.received) with
              | false =>
                have HF : Hid ((m.low.pr.ana.take (q + 1)).foldl (stabG row) false = false) := HTA.out.trans (by unfold limJ; simp [t4])
                go_wp2
                go_roundg (n - (q + 1))
                case measure => omega
                case rel => exact ⟨q + 1, false, by omega, rfl, rfl, by go_num, HF.out.symm, HV1⟩
              | true =>
                cases t5 : decide (row.received ≤ row.tested) with
                | false =>
                  have HF : Hid ((m.low.pr.ana.take (q + 1)).foldl (stabG row) false = false) := HTA.out.trans (by unfold limJ; simp [t4, t5])
                  go_wp2
                  go_roundg (n - (q + 1))
                  case measure => omega
                  case rel => exact ⟨q + 1, false, by omega, rfl, rfl, by go_num, HF.out.symm, HV1⟩
                | true =>
                  cases t6 : decide (row.received - row.collected ≤ lim) with
                  | false =>
                    have HF : Hid ((m.low.pr.ana.take (q + 1)).foldl (stabG row) false = false) := HTA.out.trans (by unfold limJ; simp [t4, t5, t6])
                    go_wp2
                    go_roundg (n - (q + 1))
                    case measure => omega
                    case rel => exact ⟨q + 1, false, by omega, rfl, rfl, by go_num, HF.out.symm, HV1⟩
                  | true =>
                    cases t7 : decide (row.tested - row.collected ≤ lim) with
                    | false =>
                      have HF : Hid ((m.low.pr.ana.take (q + 1)).foldl (stabG row) false = false) := HTA.out.trans (by unfold limJ; simp [t4, t5, t6, t7])
                      go_wp2
                      go_roundg (n - (q + 1))
                      case measure => omega
                      case rel => exact ⟨q + 1, false, by omega, rfl, rfl, by go_num, HF.out.symm, HV1⟩
                    | true =>
                      have HF : Hid ((m.low.pr.ana.take (q + 1)).foldl (stabG row) false = true) := HTA.out.trans (by unfold limJ; simp [t4, t5, t6, t7])
                      go_wp2
                      go_roundg (n - (q + 1))
                      case measure => omega
                      case rel => exact ⟨q + 1, true, by omega, rfl, rfl, by go_num, HF.out.symm, HV1⟩
      · obtain rfl : q = n := by omega
        rw [List.take_of_length_le (by rw [← HN.out]; omega)] at HBE
        go_wp2
        go_meet
        case rel => exact ⟨by rw [HBE.out], HBR⟩
  case rest =>
  as_aux_lemma =>
  obtain ⟨rfl, HBC⟩ := hcut
  have HBW := hide (HBW.out.trans (HBC.out.mono HBW.out.size))
  generalize wc = W7 at *
  clear HBC hi HLB HLC HN
  generalize hb6 : m.low.pr.ana.foldl (stabG row) false = b6 at *
  have HB7e := hide hb6
  clear hb6 hlr zG1 zM1
  obtain ⟨hM1, hk1, zG1, zM1, hw1⟩ := HFA.out _ HBW.out
  obtain ⟨la, lcap, lb, loff, hle, hll, hlm, hlr, hla, hlc⟩ := RArr.lt hM1.inn.low.sm.c
  obtain ⟨n, hn⟩ : ∃ n, n = m.low.sm.qs.length := ⟨_, rfl⟩
  have HN := hide hn
  rw [← hn] at hle hll hlr hla
  have cl : W7.cell? ⟨M, 7, none⟩ = some (.slice la n lcap) := by rw [← hle]; exact cells_all hM1.top 7
  have hi := run_indexAt_arr (P := Tryz.prog) (n := n) (cap := lcap) Tryz.underlying38 Tryz.size208 (fun h => (hla h).1)
  have HLB : Hid (0 < n → lb < W7.heap.size) := fun h => (hla h).2.2
  have HLC := hide hlc
  have HFB : Hid (∀ V, Below W7.heap.size W7 V → Below w.heap.size w V) := fun V hV => by rw [HG.out]; exact (HFA.out _ (HBW.out.trans (hV.mono HBW.out.size))).2.2.2.2
  clear hM1 hk1 hla hlc hn hlm hll hle hw1
  go_upto_region 48 with fail
  clear cl
  have HB1 := hide (Below.refl W7.heap.size W7)
  have HQ0 : Hid ((m.low.sm.qs.take 0).any (qryJ row) = false) := rfl
  go_loopg [308] n (fun gk j W => ∃ q : Nat, q ≤ n ∧ gk = n - q ∧ j = .int .i64 q ∧ Hid ((m.low.sm.qs.take q).any (qryJ row) = false) ∧ Hid (Below W7.heap.size W7 W))
  case atStart => exact ⟨0, by omega, by omega, rfl, HQ0, HB1⟩
  clear HB1 HQ0
  case round => as_aux_lemma =>
    obtain ⟨q, hq, rfl, rfl, HBE, HBR⟩ := hrel
    by_cases hlt : q < n
    · have hqs : q < m.low.sm.qs.length := by rw [← HN.out]; exact hlt
      have hbb := HLB.out (by omega)
      have c0 := HLC.out q hqs
      rw [← rng_of_block (HBR.out.block _ hbb)] at c0
      have hbw : lb < wr.heap.size := by have := HBR.out.size; omega
      have HTK := hide (any_take (P := qryJ row) hqs)
      have HMY : Hid (m.low.sm.qs[q] ∈ m.low.sm.qs) := List.getElem_mem hqs
      generalize m.low.sm.qs[q] = y at *
      go_upto_region 50 with fail
      have hb2 : Below wr.heap.size wr (wr.alloc (.cells (qryCs y) 208)) := (Below.refl _ _).alloc (Nat.le_refl _) _
      have hky : (wr.alloc (.cells (qryCs y) 208)).heap[wr.heap.size]? = some (.cells (qryCs y) 208 (0, 0)) := heap_alloc_at _ _
      generalize wr.alloc (.cells (qryCs y) 208) = V1 at *
      have HV1 : Hid (Below W7.heap.size W7 V1) := HBR.out.trans (hb2.mono HBR.out.size)
      obtain ⟨-, hrw, zG2, zM2, -⟩ := HFA.out _ (HBW.out.trans (HV1.out.mono HBW.out.size))
      have HRW := hide hrw
      have r0 : V1.cell? ⟨GG, 0, none⟩ = some (.int .u32 row.sample) := cells_all HRW.out 0
      have e1 : V1.cell? ⟨wr.heap.size, 1, none⟩ = some (.int .u32 y.sample) := cells_all hky 1
      have e2 : V1.cell? ⟨wr.heap.size, 2, none⟩ = some (.int .u8 y.stage) := cells_all hky 2
      have zD := blk_lt hky
      clear c0 hbw hb2 hky HBR hrw
      generalize wr.heap.size = D at *
      cases t1 : (y.sample == row.sample) with
      | false =>
        have HF : Hid ((m.low.sm.qs.take (q + 1)).any (qryJ row) = false) := HTK.out.trans (by rw [HBE.out, show qryJ row y = false by unfold qryJ; simp [t1]]; rfl)
        go_wp2
        go_roundg (n - (q + 1))
        case measure => omega
        case rel => exact ⟨q + 1, by omega, rfl, by go_num, HF, HV1⟩
      | true =>
        cases t2 : (y.stage == 3) with
        | true =>
          have HF : Hid ((m.low.sm.qs.take (q + 1)).any (qryJ row) = false) := HTK.out.trans (by rw [HBE.out, show qryJ row y = false by unfold qryJ; simp [t1, t2]]; rfl)
          go_wp2
          go_roundg (n - (q + 1))
          case measure => omega
          case rel => exact ⟨q + 1, by omega, rfl, by go_num, HF, HV1⟩
        | false =>
          have HF : Hid (m.low.sm.qs.any (qryJ row) = true) := by
            show _ = _
            rw [List.any_eq_true]
            exact ⟨y, HMY.out, by unfold qryJ; simp [t1, t2]⟩
          have HRF : Hid (R = false) := HR.out.trans (by unfold justB; rw [HF.out]; rfl)
          go_wp2
          go_ret
          exact ⟨ret_boolH HRF, HFB.out _ HV1.out⟩
    · obtain rfl : q = n := by omega
      rw [List.take_of_length_le (by rw [← HN.out]; omega)] at HBE
      have HRF : Hid (R = (b0 && (b1 && (b2 && (b3 && (b5 && b6)))))) := HR.out.trans (by unfold justB; rw [HBE.out, HB1e.out, HB2e.out, HB3e.out, HB4e.out, HB6e.out, HB7e.out]; rfl)
      cases b0 with
      | false =>
        go_wp2
        go_ret
        exact ⟨ret_boolH HRF, HFB.out _ HBR.out⟩
      | true =>
        cases b1 with
        | false =>
          go_wp2
          go_ret
          exact ⟨ret_boolH HRF, HFB.out _ HBR.out⟩
        | true =>
          cases b2 with
          | false =>
            go_wp2
            go_ret
            exact ⟨ret_boolH HRF, HFB.out _ HBR.out⟩
          | true =>
            cases b3 with
            | false =>
              go_wp2
              go_ret
              exact ⟨ret_boolH HRF, HFB.out _ HBR.out⟩
            | true =>
              cases b5 with
              | false =>
                go_wp2
                go_ret
                exact ⟨ret_boolH HRF, HFB.out _ HBR.out⟩
              | true =>
                cases b6 with
                | false =>
                  go_wp2
                  go_ret
                  exact ⟨ret_boolH HRF, HFB.out _ HBR.out⟩
                | true =>
                  go_wp2
                  go_ret
                  exact ⟨ret_boolH HRF, HFB.out _ HBR.out⟩

end Go.Proofs.Qxb6500666aGreatDoor
