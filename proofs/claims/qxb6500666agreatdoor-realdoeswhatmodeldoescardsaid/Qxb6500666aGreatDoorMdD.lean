/- The model's Differences. -/
import Derived.Test.Qxb6500666aGreatDoorMdP
import Derived.Test.Qxb6500666aGreatDoorMPrp
import Derived.Test.Qxb6500666aGreatDoorRcnM
namespace Go.Proofs.Qxb6500666aGreatDoor
open Go.RowKit
/-- What became of a key, in the report. -/
def mDif2 (k : Row) (x y : Option Row) : List Diff := match x, y with
  | some a, none => [⟨87, k.sample, k.analyte, a.version, 0⟩]
  | none, some b => [⟨78, k.sample, k.analyte, 0, b.version⟩]
  | some a, some b => if a.eqB b then [] else [⟨67, k.sample, k.analyte, a.version, b.version⟩]
  | none, none => []
def mDif (A B : List Row) (k : Row) : List Diff := mDif2 k (mfind A k) (mfind B k)
def mDiffs (A B : List Row) : List Diff := (ordK (mKeys A B)).flatMap (mDif A B)
theorem zeroRow_eq : zeroRow.eqB zeroRow = true := by decide
attribute [local go_sem] ext_const Ext.cell Ext.frozen Ext.rng Ext.whole
attribute [local go_sem ↓] exec_ldRow exec_stRow exec_bsRow exec_ldDiff exec_stDiff exec_bsDiff exec_bdDif4 exec_neqRow
attribute [local go_sem] run_ldRow run_stRow run_bsRow rowCs_size rowCs_ones rowCs_all run_ldDiff run_stDiff run_bsDiff run_bdDif4 run_neqRow diffCs_size whole_alloc_lt whole_alloc_at whole_drew setRow_alloc_at setRow_alloc_lt setRow_drew rng_alloc_lt rng_alloc_at rng_drew rng_drewN

set_option maxRecDepth 100000 in
set_option maxHeartbeats 16000000 in
theorem mDiffs_calls (w : World) (oka okb : Nat → Prop) (aa : Option Addr) (na ca : Nat) (ab : Option Addr) (nb cb : Nat) (A B : List Row) (hA : RArr w oka 13 rowCs (.slice aa na ca) A) (hB : RArr w okb 13 rowCs (.slice ab nb cb) B) (hAl : na ≤ 1000000) (hBl : nb ≤ 1000000) :
    Calls Tryz.prog 184 #[.slice aa na ca, .slice ab nb cb] w fun e w' => ∃ v, e = .returned v ∧ OwnR w' w.heap.size 166 5 diffCs v (mDiffs A B) ∧ Below w.heap.size w w' := by
  have HRA := hide (RArr.lt hA)
  have HRB := hide (RArr.lt hB)
  have HFA := hide (fun V (hb : Below w.heap.size w V) r => mfind_calls V (fun b => oka b ∧ b < w.heap.size) aa na ca A r (HRA.out.mono (fun b q => hb.block b q.2) (fun _ q => q)))
  have HFB := hide (fun V (hb : Below w.heap.size w V) r => mfind_calls V (fun b => okb b ∧ b < w.heap.size) ab nb cb B r (HRB.out.mono (fun b q => hb.block b q.2) (fun _ q => q)))
  obtain ⟨aa', ca', ba, oa, hva, hla, hma, hra, haa, hca⟩ := HRA.out
  simp only [Value.slice.injEq] at hva
  obtain ⟨rfl, hn1, rfl⟩ := hva
  have HNA := hide hn1
  rw [← hn1] at haa
  clear hn1
  obtain ⟨ab', cb', bb, ob, hvb, hlb, hmb, hrb, hab, hcb⟩ := HRB.out
  simp only [Value.slice.injEq] at hvb
  obtain ⟨rfl, hn2, rfl⟩ := hvb
  have HNB := hide hn2
  rw [← hn2] at hab
  have hib := run_indexAt_arr (P := Tryz.prog) (n := nb) (cap := cb) Tryz.underlying150 Tryz.size109 (fun h => (hab h).1)
  have HBB : Hid (0 < nb → bb < w.heap.size) := fun h => (hab h).2.2
  have HBC := hide hcb
  clear hA hB hlb hmb hrb hab hcb hn2 HRA HRB
  go_enter Tryz.func184, Tryz.ntmps184
  go_upto_region 3 with (at_builtin; refine wpList_appN (α := Row) rfl _ _ 150 rfl w.heap.size 109 rowCs Tryz.underlying150 Tryz.info109 rfl (by decide) rowCs_size rowCs_one (.slice none 0 0) [] rfl (OwnR.nil _ _ _ _ _) aa na ca rfl A HNA.out hma.2 (fun h => ⟨ba, oa, (haa h).1, hca⟩) (by simp; omega) (by simp; unfold maxLen; omega) (Nat.le_refl _) ?_; intro v7 wr hown7 hsame7 hbel7 hat7; rw [List.nil_append] at hown7; obtain ⟨oa, oc, hv7⟩ := hown7.form; rw [← HNA.out] at hv7; subst hv7)
  have HOW := hide hown7
  have HBR := hide hbel7
  clear hown7 hsame7 hbel7 hat7 hla hma hra haa hca
  have HO0 : Hid (OwnR wr w.heap.size 109 13 rowCs (.slice oa na oc) (A ++ (B.take 0).filter (fun r => (mfind A r).isNone))) := by
    refine hide ?_
    have := HOW.out
    simpa using this
  have HL0 : Hid (na = (A ++ (B.take 0).filter (fun r => (mfind A r).isNone)).length) := by show _ = _; rw [HNA.out]; simp
  have HB0 := HBR
  clear HOW HBR
  go_upto_region 4 with fail
  go_loopg [5, 23] nb (fun gk ov j W => ∃ (p n5 : Nat) (a5 : Option Addr) (c5 : Nat), p ≤ nb ∧ gk = nb - p ∧ ov = .slice a5 n5 c5 ∧ j = .int .i64 p ∧ n5 ≤ na + p ∧ Hid (n5 = (A ++ (B.take p).filter (fun r => (mfind A r).isNone)).length) ∧ Hid (OwnR W w.heap.size 109 13 rowCs (.slice a5 n5 c5) (A ++ (B.take p).filter (fun r => (mfind A r).isNone))) ∧ Hid (Below w.heap.size w W))
  case atStart => exact ⟨0, na, oa, oc, by omega, by omega, rfl, rfl, by omega, HL0, HO0, HB0⟩
  clear HO0 HL0 HB0
  case round =>
    obtain ⟨p, n5, a5, c5, hp, rfl, rfl, rfl, hn5, HN5, HOW, HBR⟩ := hrel
    have hsr := HBR.out.size
    by_cases hlt : p < nb
    · as_aux_lemma =>
      have hps : p < B.length := by rw [← HNB.out]; exact hlt
      have hbb := HBB.out (by omega)
      have c0 := HBC.out p hps
      rw [← rng_of_block (HBR.out.block _ hbb)] at c0
      have hbw : bb < wr.heap.size := by omega
      have HTK : Hid (A ++ (B.take (p + 1)).filter (fun r => (mfind A r).isNone) = (A ++ (B.take p).filter (fun r => (mfind A r).isNone)) ++ (if (mfind A B[p]).isNone then [B[p]] else [])) := by
        show _ = _
        rw [filter_take hps, List.append_assoc]
      generalize B[p] = r at *
      go_upto_region 6 with fail
      have hb2 : Below wr.heap.size wr (wr.alloc (.cells (rowCs r) 109)) := (Below.refl _ _).alloc (Nat.le_refl _) _
      have hkx : (wr.alloc (.cells (rowCs r) 109)).heap[wr.heap.size]? = some (.cells (rowCs r) 109 (0, 0)) := heap_alloc_at _ _
      generalize wr.alloc (.cells (rowCs r) 109) = V at *
      have HV : Hid (Below w.heap.size w V) := HBR.out.trans (hb2.mono hsr)
      have HOV := hide (HOW.out.below hb2 (Nat.le_refl _))
      have rr : rng V wr.heap.size 0 13 = some (rowCs r) := rng_whole hkx
      have zx := blk_lt hkx
      have hzV := HV.out.size
      have HF := hide (HFA.out V HV.out r)
      clear hb2 hkx c0 hbw HOW HBR hsr
      generalize wr.heap.size = D at *
      cases hm : mfind A r with
      | some y =>
        rw [hm] at HTK HF
        simp only [Option.isNone_some, Bool.false_eq_true, if_false, List.append_nil, Option.getD_some, Option.isSome_some] at HTK HF
        go_wp2_with (go_at_call 235; refine HF.out.mono ?_; rintro e V2 ⟨rfl, hbv⟩)
        have hb3 : Below V.heap.size V (V2.alloc (.cells (rowCs y) 109)) := hbv.alloc hbv.size _
        go_roundg (nb - (p + 1))
        case measure => omega
        case rel => exact ⟨p + 1, n5, a5, c5, by omega, rfl, rfl, by go_num, by omega, by rw [HTK.out]; exact HN5, by rw [HTK.out]; exact HOV.out.below hb3 (Nat.le_refl _), HV.out.trans (hb3.mono hzV)⟩
      | none =>
        rw [hm] at HTK HF
        simp only [Option.isNone_none, if_true, Option.getD_none, Option.isSome_none] at HTK HF
        go_upto_region 8 with (go_at_call 235; refine HF.out.mono ?_; rintro e V2 ⟨rfl, hbv⟩)
        have hb3 : Below V.heap.size V (V2.alloc (.cells (rowCs zeroRow) 109)) := hbv.alloc hbv.size _
        generalize V2.alloc (.cells (rowCs zeroRow) 109) = V3 at *
        have rr3 : rng V3 D 0 13 = some (rowCs r) := (rng_of_block (hb3.block _ zx) _ _).trans rr
        have zx3 : D < V3.heap.size := Nat.lt_of_lt_of_le zx hb3.size
        have HO3 := hide (HOV.out.below hb3 (Nat.le_refl _))
        have HV3 : Hid (Below w.heap.size w V3) := HV.out.trans (hb3.mono hzV)
        have hz3 := HV3.out.size
        clear rr zx hb3 hbv HOV HV hzV HF
        go_wp2_with (at_builtin; refine wpList_app1 (α := Row) rfl _ _ 150 rfl w.heap.size 109 rowCs Tryz.underlying150 Tryz.info109 rfl (by decide) rowCs_size rowCs_one (.slice a5 n5 c5) (A ++ (B.take p).filter (fun r => (mfind A r).isNone)) rfl (OwnR.below HO3.out ((Below.refl _ _).alloc (Nat.le_refl _) _) (Nat.le_refl _)) _ rfl r (rng_whole (heap_alloc_at _ _)) (by rw [← HN5.out]; omega) (by rw [← HN5.out]; unfold maxLen; omega) (by simp only [World.size_alloc]; omega) ?_; intro v8 w8 hown8 hsame8 hbel8 hat8; obtain ⟨a8, c8, hv8⟩ := hown8.form; rw [List.length_append, ← HN5.out, List.length_singleton] at hv8; subst hv8)
        go_roundg (nb - (p + 1))
        case measure => omega
        case rel => exact ⟨p + 1, n5 + 1, a8, c8, by omega, rfl, rfl, by go_num, by omega, by rw [HTK.out]; show _ = _; rw [List.length_append, ← HN5.out]; rfl, by rw [HTK.out]; exact hown8, (HV3.out.alloc hz3 _).trans hbel8⟩
    · obtain rfl : p = nb := by omega
      as_aux_lemma =>
      rw [List.take_of_length_le (by rw [← HNB.out]; omega), show A ++ B.filter (fun r => (mfind A r).isNone) = mKeys A B from rfl] at HN5 HOW
      have HIK := hide (inKey_calls wr (w.heap.size ≤ ·) a5 n5 c5 (mKeys A B) (HOW.out.rows rowCs_size (by decide) (by rw [← HN5.out]; omega)) (by omega))
      have hKl : (ordK (mKeys A B)).length ≤ 2000000 := by rw [ordK_len, ← HN5.out]; omega
      generalize hK : ordK (mKeys A B) = K at *
      have HPO : Hid (mDiffs A B = K.flatMap (mDif A B)) := by show _ = _; rw [mDiffs, hK]
      go_upto_region 12 with (go_at_call 186; refine HIK.out.mono ?_; rintro e W3 ⟨v3, rfl, hown3, hb3⟩; obtain ⟨ak, ck, rfl⟩ := hown3.form)
      obtain ⟨nk, hnk⟩ : ∃ n, n = K.length := ⟨_, rfl⟩
      have HNK := hide hnk
      have HW3 : Hid (Below w.heap.size w W3) := HBR.out.trans (hb3.mono hsr)
      have hw3 := HW3.out.size
      obtain ⟨ak', ck', bk, ok', hvk, hlk, hmk, hrk, hak, hck⟩ := RArr.lt (hown3.rows rowCs_size (by decide) (by omega))
      simp only [Value.slice.injEq] at hvk
      obtain ⟨rfl, -, rfl⟩ := hvk
      rw [← hnk] at hak hKl ⊢
      have hik := run_indexAt_arr (P := Tryz.prog) (n := nk) (cap := ck) Tryz.underlying150 Tryz.size109 (fun h => (hak h).1)
      have HKB : Hid (0 < nk → bk < W3.heap.size) := fun h => (hak h).2.2
      have HKC := hide hck
      have HO0 : Hid (OwnR W3 W3.heap.size 166 5 diffCs (.slice none 0 0) ((K.take 0).flatMap (mDif A B))) := OwnR.nil _ _ _ _ _
      have HB0 := hide (Below.refl W3.heap.size W3)
      clear hlk hmk hrk hak hck hnk hown3 hb3 HIK HOW HN5 HBR hsr hK
      go_loopg [10, 43] nk (fun gk ov j W => ∃ (u n7 : Nat) (a7 : Option Addr) (c7 : Nat), u ≤ nk ∧ gk = nk - u ∧ ov = .slice a7 n7 c7 ∧ j = .int .i64 u ∧ n7 ≤ u ∧ Hid (n7 = ((K.take u).flatMap (mDif A B)).length) ∧ Hid (OwnR W W3.heap.size 166 5 diffCs (.slice a7 n7 c7) ((K.take u).flatMap (mDif A B))) ∧ Hid (Below W3.heap.size W3 W))
      case atStart => exact ⟨0, 0, none, 0, by omega, by omega, rfl, rfl, by omega, rfl, HO0, HB0⟩
      clear HO0 HB0
      case round =>
        obtain ⟨u, n7, a7, c7, hu, rfl, rfl, rfl, hn7, HN7, HOW, HBR⟩ := hrel
        have hsr := HBR.out.size
        by_cases hlt : u < nk
        · have hus : u < K.length := by rw [← HNK.out]; exact hlt
          have hbb := HKB.out (by omega)
          have c0 := HKC.out u hus
          rw [← rng_of_block (HBR.out.block _ hbb)] at c0
          have hbw : bk < wr.heap.size := by omega
          have HTK : Hid ((K.take (u + 1)).flatMap (mDif A B) = (K.take u).flatMap (mDif A B) ++ mDif2 K[u] (mfind A K[u]) (mfind B K[u])) := by
            show _ = _
            rw [List.take_succ_eq_append_getElem hus, List.flatMap_append]
            simp [mDif]
          generalize K[u] = y at *
          go_upto_region 14 with fail
          have hb2 : Below wr.heap.size wr (wr.alloc (.cells (rowCs y) 109)) := (Below.refl _ _).alloc (Nat.le_refl _) _
          have hkx : (wr.alloc (.cells (rowCs y) 109)).heap[wr.heap.size]? = some (.cells (rowCs y) 109 (0, 0)) := heap_alloc_at _ _
          generalize wr.alloc (.cells (rowCs y) 109) = V at *
          have HV : Hid (Below W3.heap.size W3 V) := HBR.out.trans (hb2.mono hsr)
          have HOV := hide (HOW.out.below hb2 (Nat.le_refl _))
          have rr : rng V wr.heap.size 0 13 = some (rowCs y) := rng_whole hkx
          have zx := blk_lt hkx
          have hzV := HV.out.size
          have HFA1 := hide (HFA.out V (HW3.out.trans (HV.out.mono hw3)) y)
          have HFB1 := hide (fun X (hb : Below V.heap.size V X) => HFB.out X ((HW3.out.trans (HV.out.mono hw3)).trans (hb.mono (Nat.le_trans hw3 hzV))) y)
          clear hb2 hkx c0 hbw HOW HBR hsr
          generalize wr.heap.size = D at *
          generalize mfind A y = fa at *
          generalize mfind B y = fb at *
          go_upto_region 15 with (go_at_call 235; refine HFA1.out.mono ?_; rintro e X ⟨rfl, hbX⟩)
          clear HFA1
          have hb3 : Below V.heap.size V (X.alloc (.cells (rowCs (fa.getD zeroRow)) 109)) := hbX.alloc hbX.size _
          have hka : (X.alloc (.cells (rowCs (fa.getD zeroRow)) 109)).heap[X.heap.size]? = some (.cells (rowCs (fa.getD zeroRow)) 109 (0, 0)) := heap_alloc_at _ _
          generalize X.alloc (.cells (rowCs (fa.getD zeroRow)) 109) = X1 at *
          have HFB2 := hide (HFB1.out X1 hb3)
          have rr1 : rng X1 D 0 13 = some (rowCs y) := (rng_of_block (hb3.block _ zx) _ _).trans rr
          have zx1 : D < X1.heap.size := Nat.lt_of_lt_of_le zx hb3.size
          have zka := blk_lt hka
          have HRR := hide rr
          have HZX := hide zx
          clear HFB1 rr zx hbX
          generalize X.heap.size = Ea at *
          go_upto_region 16 with (go_at_call 235; refine HFB2.out.mono ?_; rintro e Y ⟨rfl, hbY⟩)
          clear HFB2
          have hb4 : Below V.heap.size V (Y.alloc (.cells (rowCs (fb.getD zeroRow)) 109)) := (hb3.trans (hbY.mono hb3.size)).alloc (Nat.le_trans hb3.size hbY.size) _
          have hkb : (Y.alloc (.cells (rowCs (fb.getD zeroRow)) 109)).heap[Y.heap.size]? = some (.cells (rowCs (fb.getD zeroRow)) 109 (0, 0)) := heap_alloc_at _ _
          have hka2 : (Y.alloc (.cells (rowCs (fb.getD zeroRow)) 109)).heap[Ea]? = some (.cells (rowCs (fa.getD zeroRow)) 109 (0, 0)) := (Below.heap_alloc _ _ _ (Nat.lt_of_lt_of_le zka hbY.size)).trans ((hbY.block _ zka).trans hka)
          generalize Y.alloc (.cells (rowCs (fb.getD zeroRow)) 109) = Y1 at *
          generalize Y.heap.size = Eb at *
          have ra : rng Y1 Ea 0 13 = some (rowCs (fa.getD zeroRow)) := rng_whole hka2
          have rb : rng Y1 Eb 0 13 = some (rowCs (fb.getD zeroRow)) := rng_whole hkb
          have za := blk_lt hka2
          have zb := blk_lt hkb
          have HO4 := hide (HOV.out.below hb4 (Nat.le_refl _))
          have HV4 : Hid (Below W3.heap.size W3 Y1) := HV.out.trans (hb4.mono hzV)
          have hz4 := HV4.out.size
          have rr4 : rng Y1 D 0 13 = some (rowCs y) := (rng_of_block (hb4.block _ HZX.out) _ _).trans HRR.out
          have zx4 : D < Y1.heap.size := Nat.lt_of_lt_of_le HZX.out hb4.size
          have c0 := (rng13 rr4).1
          have c1 : Y1.cell? ⟨D, 1, none⟩ = some (.int .u32 y.analyte) := by have := (rng13 rr4).2.1; simpa using this
          have c2 : Y1.cell? ⟨Ea, 2, none⟩ = some (.int .u32 (fa.getD zeroRow).version) := by have := (rng13 ra).2.2; simpa using this
          have c3 : Y1.cell? ⟨Eb, 2, none⟩ = some (.int .u32 (fb.getD zeroRow).version) := by have := (rng13 rb).2.2; simpa using this
          clear hb3 hb4 hka hka2 hkb zka rr1 zx1 hbY HOV HV hzV rr4 HRR HZX
          generalize hKU : (K.take u).flatMap (mDif A B) = KU at *
          go_upto_region 17 with fail
          have hb5 : Below Y1.heap.size Y1 (Y1.alloc (.cells (diffCs ⟨0, y.sample, y.analyte, (fa.getD zeroRow).version, (fb.getD zeroRow).version⟩) 166)) := (Below.refl _ _).alloc (Nat.le_refl _) _
          have hkd : (Y1.alloc (.cells (diffCs ⟨0, y.sample, y.analyte, (fa.getD zeroRow).version, (fb.getD zeroRow).version⟩) 166)).heap[Y1.heap.size]? = some (.cells (diffCs ⟨0, y.sample, y.analyte, (fa.getD zeroRow).version, (fb.getD zeroRow).version⟩) 166 (0, 0)) := heap_alloc_at _ _
          have ra5 : rng (Y1.alloc (.cells (diffCs ⟨0, y.sample, y.analyte, (fa.getD zeroRow).version, (fb.getD zeroRow).version⟩) 166)) Ea 0 13 = some (rowCs (fa.getD zeroRow)) := (rng_of_block (hb5.block _ za) _ _).trans ra
          have rb5 : rng (Y1.alloc (.cells (diffCs ⟨0, y.sample, y.analyte, (fa.getD zeroRow).version, (fb.getD zeroRow).version⟩) 166)) Eb 0 13 = some (rowCs (fb.getD zeroRow)) := (rng_of_block (hb5.block _ zb) _ _).trans rb
          have za5 := Nat.lt_of_lt_of_le za hb5.size
          have zb5 := Nat.lt_of_lt_of_le zb hb5.size
          have HO5 := hide (HO4.out.below hb5 (Nat.le_refl _))
          have HV5 : Hid (Below W3.heap.size W3 (Y1.alloc (.cells (diffCs ⟨0, y.sample, y.analyte, (fa.getD zeroRow).version, (fb.getD zeroRow).version⟩) 166))) := HV4.out.trans (hb5.mono hz4)
          have HQD : Hid (∀ g, (Value.slice a7 n7 c7).ownBlock = some g → g ≠ Y1.heap.size) := fun g hg => by have := (HO4.out.block g hg).2; omega
          generalize Y1.alloc (.cells (diffCs ⟨0, y.sample, y.analyte, (fa.getD zeroRow).version, (fb.getD zeroRow).version⟩) 166) = Y2 at *
          have hz5 := HV5.out.size
          have zd := blk_lt hkd
          clear ra rb za zb hb5 c0 c1 c2 c3 zx4 HO4 HV4
          generalize Y1.heap.size = Ed at *
          have HKD := hide hkd
          have HSET : Hid (∀ t : Int, rng (Y2.setCell ⟨Ed, 0, none⟩ (.int .u8 t)) Ed 0 5 = some (diffCs ⟨t, y.sample, y.analyte, (fa.getD zeroRow).version, (fb.getD zeroRow).version⟩) ∧ OwnR (Y2.setCell ⟨Ed, 0, none⟩ (.int .u8 t)) W3.heap.size 166 5 diffCs (.slice a7 n7 c7) KU ∧ Below W3.heap.size W3 (Y2.setCell ⟨Ed, 0, none⟩ (.int .u8 t)) ∧ (Y2.setCell ⟨Ed, 0, none⟩ (.int .u8 t)).heap.size = Y2.heap.size) := fun t =>
            ⟨rng_whole (heap_set3 HKD.out), HO5.out.mono (fun b hb => Below.heap_setCell _ _ _ _ (HQD.out b hb)), HV5.out.setCell (p := ⟨Ed, 0, none⟩) hz4 _, World.size_setCell _ _ _⟩
          have d0 : Y2.cell? ⟨Ed, 0, none⟩ = some (.int .u8 0) := cells_all hkd 0
          have fw : Y2.frozen? ⟨Ed, 0, none⟩ = false := by simp [World.frozen?, hkd]
          clear hkd
          cases fa with
          | none =>
            simp only [Option.getD_none, Option.isSome_none] at ra5 HSET ⊢
            cases fb with
            | none =>
              simp only [Option.getD_none, Option.isSome_none, List.append_nil, mDif2] at rb5 HTK HSET ⊢
              have he := zeroRow_eq
              go_wp2
              go_roundg (nk - (u + 1))
              case measure => omega
              case rel => exact ⟨u + 1, n7, a7, c7, by omega, rfl, rfl, by go_num, by omega, by rw [HTK.out]; exact HN7, by rw [HTK.out]; exact HO5, HV5⟩
            | some b =>
              simp only [Option.getD_some, Option.isSome_some, mDif2] at rb5 HTK HSET ⊢
              obtain ⟨r9, o9, b9, z9⟩ := HSET.out 78
              go_upto_region 23 with fail
              have HO9 := hide o9
              have HV9 := hide b9
              have zd9 : Ed < (Y2.setCell ⟨Ed, 0, none⟩ (.int .u8 78)).heap.size := by omega
              have hz9 : W3.heap.size ≤ (Y2.setCell ⟨Ed, 0, none⟩ (.int .u8 78)).heap.size := by omega
              clear HSET d0 fw o9 b9 z9 ra5 rb5
              generalize Y2.setCell ⟨Ed, 0, none⟩ (.int .u8 78) = Y3 at *
              go_wp2_with (at_builtin; refine wpList_app1 (α := Diff) rfl _ _ 72 rfl W3.heap.size 166 diffCs Tryz.underlying72 Tryz.info166 rfl (by decide) diffCs_size diffCs_one (.slice a7 n7 c7) KU rfl (OwnR.below HO9.out ((Below.refl _ _).alloc (Nat.le_refl _) _) (Nat.le_refl _)) _ rfl ⟨78, y.sample, y.analyte, zeroRow.version, b.version⟩ (rng_whole (heap_alloc_at _ _)) (by rw [← HN7.out]; omega) (by rw [← HN7.out]; unfold maxLen; omega) (by simp only [World.size_alloc]; omega) ?_; intro v8 w8 hown8 hsame8 hbel8 hat8; obtain ⟨a8, c8, hv8⟩ := hown8.form; rw [List.length_append, ← HN7.out, List.length_singleton] at hv8; subst hv8)
              go_roundg (nk - (u + 1))
              case measure => omega
              case rel => exact ⟨u + 1, n7 + 1, a8, c8, by omega, rfl, rfl, by go_num, by omega, by rw [HTK.out]; show _ = _; rw [List.length_append, ← HN7.out]; rfl, by rw [HTK.out]; exact hown8, (HV9.out.alloc hz9 _).trans hbel8⟩
          | some a =>
            simp only [Option.getD_some, Option.isSome_some] at ra5 HSET ⊢
            cases fb with
            | none =>
              simp only [Option.getD_none, Option.isSome_none, mDif2] at rb5 HTK HSET ⊢
              obtain ⟨r9, o9, b9, z9⟩ := HSET.out 87
              go_upto_region 23 with fail
              have HO9 := hide o9
              have HV9 := hide b9
              have zd9 : Ed < (Y2.setCell ⟨Ed, 0, none⟩ (.int .u8 87)).heap.size := by omega
              have hz9 : W3.heap.size ≤ (Y2.setCell ⟨Ed, 0, none⟩ (.int .u8 87)).heap.size := by omega
              clear HSET d0 fw o9 b9 z9 ra5 rb5
              generalize Y2.setCell ⟨Ed, 0, none⟩ (.int .u8 87) = Y3 at *
              go_wp2_with (at_builtin; refine wpList_app1 (α := Diff) rfl _ _ 72 rfl W3.heap.size 166 diffCs Tryz.underlying72 Tryz.info166 rfl (by decide) diffCs_size diffCs_one (.slice a7 n7 c7) KU rfl (OwnR.below HO9.out ((Below.refl _ _).alloc (Nat.le_refl _) _) (Nat.le_refl _)) _ rfl ⟨87, y.sample, y.analyte, a.version, zeroRow.version⟩ (rng_whole (heap_alloc_at _ _)) (by rw [← HN7.out]; omega) (by rw [← HN7.out]; unfold maxLen; omega) (by simp only [World.size_alloc]; omega) ?_; intro v8 w8 hown8 hsame8 hbel8 hat8; obtain ⟨a8, c8, hv8⟩ := hown8.form; rw [List.length_append, ← HN7.out, List.length_singleton] at hv8; subst hv8)
              go_roundg (nk - (u + 1))
              case measure => omega
              case rel => exact ⟨u + 1, n7 + 1, a8, c8, by omega, rfl, rfl, by go_num, by omega, by rw [HTK.out]; show _ = _; rw [List.length_append, ← HN7.out]; rfl, by rw [HTK.out]; exact hown8, (HV9.out.alloc hz9 _).trans hbel8⟩
            | some b =>
              simp only [Option.getD_some, Option.isSome_some, mDif2] at rb5 HTK HSET ⊢
              cases he : a.eqB b with
              | true =>
                rw [he] at HTK
                simp only [if_true, List.append_nil] at HTK
                go_wp2
                go_roundg (nk - (u + 1))
                case measure => omega
                case rel => exact ⟨u + 1, n7, a7, c7, by omega, rfl, rfl, by go_num, by omega, by rw [HTK.out]; exact HN7, by rw [HTK.out]; exact HO5, HV5⟩
              | false =>
                rw [he] at HTK
                simp only [Bool.false_eq_true, if_false] at HTK
                obtain ⟨r9, o9, b9, z9⟩ := HSET.out 67
                go_upto_region 23 with fail
                have HO9 := hide o9
                have HV9 := hide b9
                have zd9 : Ed < (Y2.setCell ⟨Ed, 0, none⟩ (.int .u8 67)).heap.size := by omega
                have hz9 : W3.heap.size ≤ (Y2.setCell ⟨Ed, 0, none⟩ (.int .u8 67)).heap.size := by omega
                clear HSET d0 fw o9 b9 z9 ra5 rb5
                generalize Y2.setCell ⟨Ed, 0, none⟩ (.int .u8 67) = Y3 at *
                go_wp2_with (at_builtin; refine wpList_app1 (α := Diff) rfl _ _ 72 rfl W3.heap.size 166 diffCs Tryz.underlying72 Tryz.info166 rfl (by decide) diffCs_size diffCs_one (.slice a7 n7 c7) KU rfl (OwnR.below HO9.out ((Below.refl _ _).alloc (Nat.le_refl _) _) (Nat.le_refl _)) _ rfl ⟨67, y.sample, y.analyte, a.version, b.version⟩ (rng_whole (heap_alloc_at _ _)) (by rw [← HN7.out]; omega) (by rw [← HN7.out]; unfold maxLen; omega) (by simp only [World.size_alloc]; omega) ?_; intro v8 w8 hown8 hsame8 hbel8 hat8; obtain ⟨a8, c8, hv8⟩ := hown8.form; rw [List.length_append, ← HN7.out, List.length_singleton] at hv8; subst hv8)
                go_roundg (nk - (u + 1))
                case measure => omega
                case rel => exact ⟨u + 1, n7 + 1, a8, c8, by omega, rfl, rfl, by go_num, by omega, by rw [HTK.out]; show _ = _; rw [List.length_append, ← HN7.out]; rfl, by rw [HTK.out]; exact hown8, (HV9.out.alloc hz9 _).trans hbel8⟩
        · obtain rfl : u = nk := by omega
          rw [List.take_of_length_le (by rw [← HNK.out]; omega), ← HPO.out] at HOW
          go_wp2
          go_ret
          exact ⟨_, rfl, HOW.out.baseLe hw3, HW3.out.trans (HBR.out.mono hw3)⟩
end Go.Proofs.Qxb6500666aGreatDoor
