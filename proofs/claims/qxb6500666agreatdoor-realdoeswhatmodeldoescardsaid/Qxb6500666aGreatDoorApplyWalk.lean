/- Apply, walked. -/
import Derived.Test.Qxb6500666aGreatDoorApplySt
import Derived.Deep.DeepCutAuto
import Derived.Deep.CutBlock
import Derived.Deep.LoopGhost
namespace Go.Proofs.Qxb6500666aGreatDoor
open Go.RowKit
attribute [local go_sem ↓] exec_ldRow exec_ldChange exec_ldFile exec_stRow exec_stChange exec_stFile exec_bsRow exec_bsChange exec_slRows exec_eqlRow exec_neqRow
attribute [local go_sem] run_ldRow run_ldChange run_ldFile run_stRow run_stChange run_stFile run_bsRow run_bsChange run_neqRow run_eqlRow rng_alloc_lt rng_alloc_at rng_drew rng_drewN rng_setCell_other rng_setRow_other whole_alloc_lt whole_alloc_at whole_drew whole_setCell_other whole_setRow_other setRow_alloc_at setRow_alloc_lt setRow_drew rowCs_size rowCs_ones rowCs_0 rowCs_1 rowCs_2 rowCs_3 rowCs_4 rowCs_5 rowCs_6 rowCs_7 rowCs_8 rowCs_9 rowCs_10 rowCs_11 rowCs_12 rowCs_all changeCs_size changeCs_ones changeCs_0 changeCs_row changeCs_all fileCs_size fileCs_ones fileCs_0 fileCs_1 fileCs_2 fileCs_3 fileCs_4 fileCs_all ext_const Ext.cell Ext.frozen Ext.rng Ext.whole

set_option maxRecDepth 100000 in
set_option maxHeartbeats 4000000 in
theorem apply_calls (w : World) (ok ok' : Nat → Prop) (v v' : Value) (rs : List Row) (cs : List Change) (h : RowsAt w ok v rs) (h' : ChangesAt w ok' v' cs) (hlen : rs.length ≤ 100000000) (hlen' : cs.length ≤ 100000000) :
    Calls Tryz.prog 122 #[v, v'] w fun e w' => ApplyPost w (applyF rs cs) e w' := by
  obtain ⟨a, cap, b, off, rfl, hl, hm, hr, ha, hc⟩ := RArr.lt h
  obtain ⟨a', cap', b', off', rfl, hl', hm', hr', ha', hc'⟩ := RArr.lt h'
  obtain ⟨n, hn⟩ : ∃ n, n = rs.length := ⟨_, rfl⟩
  obtain ⟨n', hn'⟩ : ∃ n, n = cs.length := ⟨_, rfl⟩
  have Hn : Hid (n = rs.length) := hn
  have Hn' : Hid (n' = cs.length) := hn'
  rw [← hn] at hl hr ha hlen ⊢
  rw [← hn'] at hl' hr' ha' hlen' ⊢
  have hi := run_indexAt_arr (P := Tryz.prog) (cap := cap) Tryz.underlying150 Tryz.size109 (fun h => (ha h).1)
  have hi' := run_indexAt_arr (P := Tryz.prog) (cap := cap') Tryz.underlying57 Tryz.size111 (fun h => (ha' h).1)
  have HA : Hid (0 < n → a = some ⟨b, off, none⟩) := fun h => (ha h).1
  have HL : Hid (n ≤ cap) := hl
  have HNil : Hid (a = none → cap = 0) := hm.2
  have HB : Hid (0 < n → b < w.heap.size) := fun h => (ha h).2.2
  have HB' : Hid (0 < n' → b' < w.heap.size) := fun h => (ha' h).2.2
  have HC := hide hc
  have HC' := hide hc'
  clear ha hc hn hm hl ha' hc' hn' hm' hl' h h'
  go_enter Tryz.func122, Tryz.ntmps122
  obtain ⟨i0, hi0, hz0, hz1, hz2⟩ := info_parts Tryz.info109
  go_wp2_with (at_make; refine wpList_make_own w rfl _ _ 150 rfl w.heap.size 109 i0 _ 13 Tryz.underlying150 hi0 hz0 hz1 _ _ _ (n + n') rfl rfl (by omega) (by rw [hz2]; omega) (by unfold maxLen; omega) (Nat.le_refl _) ?_; intro W0 hown0 hgr0)
  have hbel0 : Below w.heap.size w W0 := (Below.refl _ _).grown hgr0 (Nat.le_refl _) (fun k hk => by simp at hk)
  clear hgr0 hi0 hz0 hz1 hz2
  have hown0' : OwnR W0 w.heap.size 109 13 rowCs (.slice (some ⟨w.heap.size, 0, none⟩) 0 (n + n')) [] := hown0
  clear hown0
  go_loopg [6, 7, 19] n' (fun g o i j wr => ∃ (q i0 : Nat) (outl : List Row), q ≤ n' ∧ g = n' - q ∧ i0 ≤ n ∧ i = .int .i64 i0 ∧ j = .int .i64 q ∧ OwnR wr w.heap.size 109 13 rowCs o outl ∧ Below w.heap.size w wr ∧ outl.length ≤ i0 + q ∧ Hid (applyF rs cs = applyGo (prevAt cs q) (rs.drop i0) outl (cs.drop q)))
  case atStart => exact ⟨0, 0, [], by omega, by omega, by omega, rfl, rfl, hown0', hbel0, by simp, by show _ = _; simp [applyF, prevAt_zero]⟩
  case round =>
    obtain ⟨q, i0, outl, hq, rfl, hi0n, rfl, rfl, hown, hbel, hol, HGO⟩ := hrel
    clear hown0' hbel0
    by_cases hlt : q < n'
    · have hqs : q < cs.length := by rw [← Hn'.out]; exact hlt
      have c0 := HC'.out q hqs
      have hbb' := HB'.out (by omega)
      have HD : Hid (cs.drop q = cs[q] :: cs.drop (q + 1)) := drop_cons _ _ hqs
      have HP : Hid (prevAt cs (q + 1) = some cs[q].row) := prevAt_succ _ _ hqs
      generalize cs[q] = c at *
      rw [← rng_of_block (hbel.block _ hbb')] at c0
      have hbw' : b' < wr.heap.size := by have := hbel.size; omega
      go_upto_region 6 with fail
      have hst : St w (wr.alloc (.cells (changeCs c) 111)) u6 outl wr.heap.size c :=
        ⟨hbel.alloc hbel.size _, hown.below ((Below.refl _ _).alloc (Nat.le_refl _) _) (Nat.le_refl _), by rw [rng_alloc_at _ _ _ _ _ _ _ rfl, changeCs_size]; rfl, OwnR.ne_new hown hbel⟩
      generalize wr.alloc (.cells (changeCs c) 111) = W1 at *
      generalize wr.heap.size = B at *
      clear c0 hown hbel hbw'
      go_cut [37] (fun t wx => t = .bool (prevBad (prevAt cs q) c.row) ∧ St w wx u6 outl B c)
      case first =>
        have hx1 := hst.row
        have hBlt := rng_lt hst.box
        by_cases hq0 : 0 < q
        · have c1 := HC'.out (q - 1) (by omega)
          have HPP : Hid (prevAt cs q = some cs[q - 1].row) := prevAt_pos cs q hq0 (by omega)
          generalize cs[q - 1] = cp at *
          rw [← rng_of_block (hst.below.block _ hbb')] at c1
          have c2 := rng_sub (o := 1) (m := 13) c1 (by decide)
          rw [changeCs_row] at c2
          have hbW : b' < W1.heap.size := by have := hst.below.size; omega
          have e1 : ((q : Int) - 1).toNat = q - 1 := by omega
          have hi1 := fun w => hi' w ((q : Int) - 1) (by omega) (by omega)
          simp only [e1] at hi1
          clear e1 c1
          refine wp_region_ext W1.heap.size (by kernel_rfl) (by kernel_rfl) ?_
          repeat (go_big_quiet_step ((go_at_call 112; refine ext_call (Nat.le_refl _) (compareKeys_calls _ _ _))))
          refine wpQuiet_nil ?_
          intro _ hw'
          obtain ⟨x, hw2⟩ := hw'
          subst hw2
          obtain ⟨w2, hb2⟩ := x
          simp only []
          go_wp2_with fail
          go_meet
          case rel => exact ⟨by rw [HPP.out]; simp [prevBad], hst.ext hb2⟩
        · have hq0' : q = 0 := by omega
          subst hq0'
          refine wp_region_ext W1.heap.size (by kernel_rfl) (by kernel_rfl) ?_
          repeat (go_big_quiet_step ((go_at_call 112; refine ext_call (Nat.le_refl _) (compareKeys_calls _ _ _))))
          refine wpQuiet_nil ?_
          intro _ hw'
          obtain ⟨x, hw2⟩ := hw'
          subst hw2
          obtain ⟨w2, hb2⟩ := x
          simp only []
          go_wp2_with fail
          go_meet
          case rel => exact ⟨by rw [prevAt_zero]; rfl, hst.ext hb2⟩
      case rest =>
        obtain ⟨rfl, hst1⟩ := hcut
        clear hst
        have HEQ : Hid (applyF rs cs = if prevBad (prevAt cs q) c.row then none else match stepGo c (skipTo c.row outl (rs.drop i0)).1 (skipTo c.row outl (rs.drop i0)).2 with
            | none => none
            | some (o', r') => applyGo (some c.row) r' o' (cs.drop (q + 1))) := by
          show _ = _
          rw [HGO.out, HD.out]; rfl
        cases hpb : prevBad (prevAt cs q) c.row with
        | true =>
          have HN : Hid (applyF rs cs = none) := by show _ = _; rw [HEQ.out, hpb]; rfl
          go_wp2
          go_ret2
          exact applyPost_none HN.out hst1.below
        | false =>
          have HE2 : Hid (applyF rs cs = match stepGo c (skipTo c.row outl (rs.drop i0)).1 (skipTo c.row outl (rs.drop i0)).2 with
              | none => none
              | some (o', r') => applyGo (some c.row) r' o' (cs.drop (q + 1))) := by
            show _ = _
            rw [HEQ.out, hpb]; rfl
          clear HEQ HGO HD
          go_upto_block 2 with fail
          go_cut [6, 7] (fun o2 iv wx => ∃ (i1 : Nat) (outl1 : List Row), i1 ≤ n ∧ iv = .int .i64 i1 ∧ St w wx o2 outl1 B c ∧ outl1.length ≤ i1 + q ∧ Hid (skipTo c.row outl (rs.drop i0) = (outl1, rs.drop i1)))
          case first =>
            go_wp2_with fail
            go_loopg [6, 7] (n - i0) (fun g o2 iv wx => ∃ (i1 : Nat) (outl1 : List Row), i1 ≤ n ∧ g = n - i1 ∧ iv = .int .i64 i1 ∧ St w wx o2 outl1 B c ∧ outl1.length ≤ i1 + q ∧ Hid (skipTo c.row outl (rs.drop i0) = skipTo c.row outl1 (rs.drop i1)))
            case atStart => exact ⟨i0, outl, hi0n, rfl, rfl, hst1, hol, rfl⟩
            case round =>
              obtain ⟨i1, outl1, hi1n, rfl, rfl, hst2, hol1, HSK⟩ := hrel
              clear hst1
              have hx1 := hst2.row
              have hBlt := rng_lt hst2.box
              by_cases hl1 : i1 < n
              · have his : i1 < rs.length := by rw [← Hn.out]; exact hl1
                have d0 := HC.out i1 his
                have hbb := HB.out (by omega)
                have HDr : Hid (rs.drop i1 = rs[i1] :: rs.drop (i1 + 1)) := drop_cons _ _ his
                generalize rs[i1] = r at *
                rw [← rng_of_block (hst2.below.block _ hbb)] at d0
                have hbW : b < wr.heap.size := by have := hst2.below.size; omega
                by_cases hcmp : cmpK r c.row < 0
                · skip
                  go_wp2_with fail
                  refine wp_region_ext wr.heap.size (by kernel_rfl) (by kernel_rfl) ?_
                  repeat (go_big_quiet_step ((go_at_call 112; refine ext_call (Nat.le_refl _) (compareKeys_calls _ _ _))))
                  refine wpQuiet_nil ?_
                  intro _ hw'
                  obtain ⟨x, hw2⟩ := hw'
                  subst hw2
                  obtain ⟨w2, hb2⟩ := x
                  simp only []
                  have hst3 := hst2.ext hb2
                  rw [← rng_of_block (hb2.block _ hbW)] at d0
                  have hbW2 : b < w2.heap.size := by have := hb2.size; omega
                  clear hx1 hst2
                  have hs3 := hst3.below.size
                  go_wp2_with (at_builtin; refine wpList_app1 (α := Row) rfl _ _ 150 rfl w.heap.size 109 rowCs Tryz.underlying150 Tryz.info109 rfl (by decide) rowCs_size rowCs_one _ outl1 rfl (OwnR.below hst3.own ((Below.refl _ _).alloc (Nat.le_refl _) _) (Nat.le_refl _)) _ rfl r (by simp [go_sem]) (by omega) (by unfold maxLen; omega) (by simp; omega) ?_; intro v' w' hown' hsame hbel' hat)
                  go_roundg (n - (i1 + 1))
                  case measure => omega
                  case rel => exact ⟨i1 + 1, outl1 ++ [r], by omega, rfl, by go_num, hst3.app hown' hsame hbel' hat, by simp; omega, by show _ = _; rw [HSK.out, HDr.out]; simp [skipTo, hcmp]⟩
                · skip
                  go_wp2_with fail
                  refine wp_region_ext wr.heap.size (by kernel_rfl) (by kernel_rfl) ?_
                  repeat (go_big_quiet_step ((go_at_call 112; refine ext_call (Nat.le_refl _) (compareKeys_calls _ _ _))))
                  refine wpQuiet_nil ?_
                  intro _ hw'
                  obtain ⟨x, hw2⟩ := hw'
                  subst hw2
                  obtain ⟨w2, hb2⟩ := x
                  simp only []
                  go_wp2_with fail
                  go_meet
                  case rel => exact ⟨i1, outl1, hi1n, rfl, hst2.ext hb2, hol1, by show _ = _; rw [HSK.out, HDr.out]; simp [skipTo]; intro h; omega⟩
              · have HDr : Hid (rs.drop i1 = []) := by show _ = _; rw [List.drop_eq_nil_iff, ← Hn.out]; omega
                go_wp2_with fail
                refine wp_region_ext wr.heap.size (by kernel_rfl) (by kernel_rfl) ?_
                repeat (go_big_quiet_step ((go_at_call 112; refine ext_call (Nat.le_refl _) (compareKeys_calls _ _ _))))
                refine wpQuiet_nil ?_
                intro _ hw'
                obtain ⟨x, hw2⟩ := hw'
                subst hw2
                obtain ⟨w2, hb2⟩ := x
                simp only []
                go_wp2_with fail
                go_meet
                case rel => exact ⟨i1, outl1, hi1n, rfl, hst2.ext hb2, hol1, by show _ = _; rw [HSK.out, HDr.out]; rfl⟩
          case rest =>
            obtain ⟨i1, outl1, hi1n, rfl, hst2, hol1, HSK⟩ := hcut
            clear hst1
            have HE3 : Hid (applyF rs cs = match stepGo c outl1 (rs.drop i1) with
                | none => none
                | some (o', r') => applyGo (some c.row) r' o' (cs.drop (q + 1))) := by
              show _ = _
              rw [HE2.out, HSK.out]
            clear HE2 HSK
            go_upto_region 11 with fail
            go_cut [10] (fun p wx => p = .bool (headIs c.row (rs.drop i1)) ∧ St w wx u6 outl1 B c)
            case first =>
              have hx1 := hst2.row
              have hBlt := rng_lt hst2.box
              by_cases hl1 : i1 < n
              · have his : i1 < rs.length := by rw [← Hn.out]; exact hl1
                have d0 := HC.out i1 his
                have hbb := HB.out (by omega)
                have HDr : Hid (rs.drop i1 = rs[i1] :: rs.drop (i1 + 1)) := drop_cons _ _ his
                generalize rs[i1] = r at *
                rw [← rng_of_block (hst2.below.block _ hbb)] at d0
                have hbW : b < wc.heap.size := by have := hst2.below.size; omega
                refine wp_region_ext wc.heap.size (by kernel_rfl) (by kernel_rfl) ?_
                repeat (go_big_quiet_step ((go_at_call 112; refine ext_call (Nat.le_refl _) (compareKeys_calls _ _ _))))
                refine wpQuiet_nil ?_
                intro _ hw'
                obtain ⟨x, hw2⟩ := hw'
                subst hw2
                obtain ⟨w2, hb2⟩ := x
                simp only []
                go_wp2_with fail
                go_meet
                case rel => exact ⟨by rw [HDr.out]; rfl, hst2.ext hb2⟩
              · have HDr : Hid (rs.drop i1 = []) := by show _ = _; rw [List.drop_eq_nil_iff, ← Hn.out]; omega
                refine wp_region_ext wc.heap.size (by kernel_rfl) (by kernel_rfl) ?_
                repeat (go_big_quiet_step ((go_at_call 112; refine ext_call (Nat.le_refl _) (compareKeys_calls _ _ _))))
                refine wpQuiet_nil ?_
                intro _ hw'
                obtain ⟨x, hw2⟩ := hw'
                subst hw2
                obtain ⟨w2, hb2⟩ := x
                simp only []
                go_wp2_with fail
                go_meet
                case rel => exact ⟨by rw [HDr.out]; rfl, hst2.ext hb2⟩
            case rest =>
              obtain ⟨rfl, hst3⟩ := hcut
              clear hst2
              have hact := hst3.act
              have hx1 := hst3.row
              have hBlt := rng_lt hst3.box
              have hs3 := hst3.below.size
              by_cases h78 : c.action = 78
              · have H78 := hide h78
                have t1 : (c.action == 78) = true := by simpa using h78
                clear h78
                cases hp : headIs c.row (rs.drop i1) with
                | true =>
                  have HNN : Hid (applyF rs cs = none) := by show _ = _; rw [HE3.out, stepGo_new_bad H78.out hp]
                  go_wp2
                  go_ret2
                  exact applyPost_none HNN.out hst3.below
                | false =>
                  have HS : Hid (stepGo c outl1 (rs.drop i1) = some (outl1 ++ [c.row], rs.drop i1)) := stepGo_new_ok H78.out hp
                  have hst4 := hst3
                  go_wp2_with (at_builtin; refine wpList_app1 (α := Row) rfl _ _ 150 rfl w.heap.size 109 rowCs Tryz.underlying150 Tryz.info109 rfl (by decide) rowCs_size rowCs_one _ outl1 rfl (OwnR.below hst4.own ((Below.refl _ _).alloc (Nat.le_refl _) _) (Nat.le_refl _)) _ rfl c.row (by simp [go_sem]) (by omega) (by unfold maxLen; omega) (by simp; omega) ?_; intro v' w' hown' hsame hbel' hat)
                  have hst5 := hst4.app hown' hsame hbel' hat
                  go_roundg (n' - (q + 1))
                  case measure => omega
                  case rel => exact ⟨q + 1, i1, outl1 ++ [c.row], by omega, rfl, by omega, by go_num, by go_num, hst5.own, hst5.below, by simp; omega, by show _ = _; rw [HE3.out, HS.out, HP.out]⟩
              · have H78 := hide h78
                have t1 : (c.action == 78) = false := by simpa using h78
                clear h78
                by_cases h67 : c.action = 67
                · have H67 := hide h67
                  have t2 : (c.action == 67) = true := by simpa using h67
                  clear h67
                  cases hp : headIs c.row (rs.drop i1) with
                  | false =>
                    have HNN : Hid (applyF rs cs = none) := by show _ = _; rw [HE3.out, stepGo_corr_no H67.out hp]
                    go_wp2_with fail
                    refine wp_region_ext wc.heap.size (by kernel_rfl) (by kernel_rfl) ?_
                    repeat (go_big_quiet_step (fail))
                    refine wpQuiet_nil ?_
                    intro _ hw'
                    obtain ⟨x, hw2⟩ := hw'
                    subst hw2
                    obtain ⟨w2, hb2⟩ := x
                    simp only []
                    go_wp2
                    go_ret2
                    exact applyPost_none HNN.out (hst3.ext hb2).below
                  | true =>
                    have hl1 : i1 < n := by rw [Hn.out]; exact lt_of_head hp
                    have his : i1 < rs.length := by rw [← Hn.out]; exact hl1
                    have d0 := HC.out i1 his
                    have hbb := HB.out (by omega)
                    have HDr : Hid (rs.drop i1 = rs[i1] :: rs.drop (i1 + 1)) := drop_cons _ _ his
                    generalize rs[i1] = r at *
                    rw [← rng_of_block (hst3.below.block _ hbb)] at d0
                    have hbW : b < wc.heap.size := by omega
                    cases he : r.eqB c.row with
                    | true =>
                      have HNN : Hid (applyF rs cs = none) := by show _ = _; rw [HE3.out, HDr.out, stepGo_corr_same H67.out he]
                      go_wp2_with fail
                      refine wp_region_ext wc.heap.size (by kernel_rfl) (by kernel_rfl) ?_
                      repeat (go_big_quiet_step (fail))
                      refine wpQuiet_nil ?_
                      intro _ hw'
                      obtain ⟨x, hw2⟩ := hw'
                      subst hw2
                      obtain ⟨w2, hb2⟩ := x
                      simp only []
                      go_wp2
                      go_ret2
                      exact applyPost_none HNN.out (hst3.ext hb2).below
                    | false =>
                      have HS : Hid (stepGo c outl1 (rs.drop i1) = some (outl1 ++ [c.row], rs.drop (i1 + 1))) := by show _ = _; rw [HDr.out] at hp ⊢; exact stepGo_corr_ok H67.out hp he
                      go_wp2_with fail
                      refine wp_region_ext wc.heap.size (by kernel_rfl) (by kernel_rfl) ?_
                      repeat (go_big_quiet_step (fail))
                      refine wpQuiet_nil ?_
                      intro _ hw'
                      obtain ⟨x, hw2⟩ := hw'
                      subst hw2
                      obtain ⟨w2, hb2⟩ := x
                      simp only []
                      have hst4 := hst3.ext hb2
                      have hx1 := hst4.row
                      have hBlt := rng_lt hst4.box
                      have hs4 := hst4.below.size
                      clear hst3 hact d0
                      go_wp2_with (at_builtin; refine wpList_app1 (α := Row) rfl _ _ 150 rfl w.heap.size 109 rowCs Tryz.underlying150 Tryz.info109 rfl (by decide) rowCs_size rowCs_one _ outl1 rfl (OwnR.below hst4.own ((Below.refl _ _).alloc (Nat.le_refl _) _) (Nat.le_refl _)) _ rfl c.row (by simp [go_sem]) (by omega) (by unfold maxLen; omega) (by simp; omega) ?_; intro v' w' hown' hsame hbel' hat)
                      have hst5 := hst4.app hown' hsame hbel' hat
                      go_roundg (n' - (q + 1))
                      case measure => omega
                      case rel => exact ⟨q + 1, i1 + 1, outl1 ++ [c.row], by omega, rfl, by omega, by go_num, by go_num, hst5.own, hst5.below, by simp; omega, by show _ = _; rw [HE3.out, HS.out, HP.out]⟩
                · have H67 := hide h67
                  have t2 : (c.action == 67) = false := by simpa using h67
                  clear h67
                  by_cases h87 : c.action = 87
                  · have H87 := hide h87
                    have t3 : (c.action == 87) = true := by simpa using h87
                    clear h87
                    cases hp : headIs c.row (rs.drop i1) with
                    | false =>
                      have HNN : Hid (applyF rs cs = none) := by show _ = _; rw [HE3.out, stepGo_wd_no H87.out hp]
                      go_wp2_with fail
                      refine wp_region_ext wc.heap.size (by kernel_rfl) (by kernel_rfl) ?_
                      repeat (go_big_quiet_step (fail))
                      refine wpQuiet_nil ?_
                      intro _ hw'
                      obtain ⟨x, hw2⟩ := hw'
                      subst hw2
                      obtain ⟨w2, hb2⟩ := x
                      simp only []
                      go_wp2
                      go_ret2
                      exact applyPost_none HNN.out (hst3.ext hb2).below
                    | true =>
                      have hl1 : i1 < n := by rw [Hn.out]; exact lt_of_head hp
                      have his : i1 < rs.length := by rw [← Hn.out]; exact hl1
                      have d0 := HC.out i1 his
                      have hbb := HB.out (by omega)
                      have HDr : Hid (rs.drop i1 = rs[i1] :: rs.drop (i1 + 1)) := drop_cons _ _ his
                      generalize rs[i1] = r at *
                      rw [← rng_of_block (hst3.below.block _ hbb)] at d0
                      have hbW : b < wc.heap.size := by omega
                      cases he : r.eqB c.row with
                      | false =>
                        have HNN : Hid (applyF rs cs = none) := by show _ = _; rw [HE3.out, HDr.out, stepGo_wd_other H87.out he]
                        go_wp2_with fail
                        refine wp_region_ext wc.heap.size (by kernel_rfl) (by kernel_rfl) ?_
                        repeat (go_big_quiet_step (fail))
                        refine wpQuiet_nil ?_
                        intro _ hw'
                        obtain ⟨x, hw2⟩ := hw'
                        subst hw2
                        obtain ⟨w2, hb2⟩ := x
                        simp only []
                        go_wp2
                        go_ret2
                        exact applyPost_none HNN.out (hst3.ext hb2).below
                      | true =>
                        have HS : Hid (stepGo c outl1 (rs.drop i1) = some (outl1, rs.drop (i1 + 1))) := by show _ = _; rw [HDr.out] at hp ⊢; exact stepGo_wd_ok H87.out hp he
                        go_wp2_with fail
                        refine wp_region_ext wc.heap.size (by kernel_rfl) (by kernel_rfl) ?_
                        repeat (go_big_quiet_step (fail))
                        refine wpQuiet_nil ?_
                        intro _ hw'
                        obtain ⟨x, hw2⟩ := hw'
                        subst hw2
                        obtain ⟨w2, hb2⟩ := x
                        simp only []
                        have hst4 := hst3.ext hb2
                        go_wp2
                        go_roundg (n' - (q + 1))
                        case measure => omega
                        case rel => exact ⟨q + 1, i1 + 1, outl1, by omega, rfl, by omega, by go_num, by go_num, hst4.own, hst4.below, by omega, by show _ = _; rw [HE3.out, HS.out, HP.out]⟩
                  · have H87 := hide h87
                    have t3 : (c.action == 87) = false := by simpa using h87
                    clear h87
                    have HNN : Hid (applyF rs cs = none) := by show _ = _; rw [HE3.out, stepGo_none H78.out H67.out H87.out]
                    go_wp2
                    go_ret2
                    exact applyPost_none HNN.out hst3.below
    · have HE : Hid (cs.drop q = []) := by show _ = _; rw [List.drop_eq_nil_iff]; rw [← Hn'.out]; omega
      obtain ⟨ao, hsl, hao, hnone⟩ := run_slFrom (P := Tryz.prog) Tryz.underlying150 Tryz.size109 HA.out HL.out HNil.out i0 hi0n
      have HF : Hid (applyF rs cs = some (outl ++ rs.drop i0)) := by show _ = _; rw [HGO.out, HE.out]; rfl
      have HDL : Hid (n - i0 = (rs.drop i0).length) := by show _ = _; rw [List.length_drop, ← Hn.out]
      have HSrc : Hid (0 < n - i0 → ∃ b0 off0, ao = some ⟨b0, off0, none⟩ ∧ ∀ k (h : k < (rs.drop i0).length), rng wr b0 (off0 + k * 13) 13 = some (rowCs (rs.drop i0)[k])) := by
        intro hpos
        refine ⟨b, off + i0 * 13, hao (by omega), fun k hk => ?_⟩
        have hk' : i0 + k < rs.length := by rw [List.length_drop] at hk; omega
        rw [rng_of_block (hbel.block _ (HB.out (by omega)))]
        have := HC.out (i0 + k) hk'
        rw [List.getElem_drop, Nat.add_assoc, ← Nat.add_mul]
        exact this
      have hsz := hbel.size
      clear hao
      go_wp2_with (at_builtin; refine wpList_appN (α := Row) rfl _ _ 150 rfl w.heap.size 109 rowCs Tryz.underlying150 Tryz.info109 rfl (by decide) rowCs_size rowCs_one _ outl rfl hown ao (n - i0) (cap - i0) rfl (rs.drop i0) HDL.out hnone HSrc.out (by omega) (by unfold maxLen; omega) hsz ?_; intro v' w' hown' hsame hbel' hat)
      go_ret2
      rw [HF.out]
      exact ⟨hbel.trans hbel', v', rfl, hown'⟩

end Go.Proofs.Qxb6500666aGreatDoor
