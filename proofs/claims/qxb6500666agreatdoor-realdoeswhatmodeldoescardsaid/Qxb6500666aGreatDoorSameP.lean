/- sameBytes and samePairs, exact; sameList of numbers. (Made by tools/mk_samep.py.) -/
import Derived.Test.Qxb6500666aGreatDoorZp
namespace Go.Proofs.Qxb6500666aGreatDoor
open Go.RowKit

set_option maxRecDepth 100000 in
set_option maxHeartbeats 1000000 in
theorem sameBytes_calls (w : World) (ok ok' : Nat → Prop) (x y : Value) (xs ys : List Int) (hx : BytesAt w ok x xs) (hy : BytesAt w ok' y ys) :
    Calls Tryz.prog 48 #[x, y] w fun e w' => e = .returned (.bool (decide (xs = ys))) ∧ ∃ n, w' = w.drewN n := by
  obtain ⟨r, hr⟩ : ∃ r, r = decide (xs = ys) := ⟨_, rfl⟩
  have Hr : Hid (r = decide (xs = ys)) := hr
  rw [← hr]
  clear hr
  obtain ⟨n, hn⟩ : ∃ n, xs.length = n := ⟨_, rfl⟩
  obtain ⟨m, hm⟩ : ∃ m, ys.length = m := ⟨_, rfl⟩
  obtain ⟨a, cap, b, off, rfl, hl, -, -, -, ha, hc⟩ := hx.parts n hn
  obtain ⟨a', cap', b', off', rfl, hl', -, -, -, ha', hc'⟩ := hy.parts m hm
  by_cases hnm : n = m
  · subst hnm
    have hi := run_indexAt_arr (P := Tryz.prog) (cap := cap) Tryz.underlying55 Tryz.size5 (fun h => (ha h).1)
    have hi' := run_indexAt_arr (P := Tryz.prog) (cap := cap') Tryz.underlying55 Tryz.size5 (fun h => (ha' h).1)
    have hb : ((n : Int) != (n : Int)) = false := by simp
    have HC := hide hc
    have HC' := hide hc'
    have Hn := hide hn
    have Hm := hide hm
    clear hc hc' hn hm ha ha'
    go_enter Tryz.func48, Tryz.ntmps48
    go_wp2
    go_loopw [13] (fun i wr => ∃ k : Nat, k ≤ n ∧ i = .int .i64 k ∧ Hid (xs.take k = ys.take k) ∧ Hid (∃ m, wr = w.drewN m)) (fun i _ => n - (intOf i).toNat)
    case atStart => exact ⟨0, by omega, rfl, rfl, ⟨0, rfl⟩⟩
    case round =>
      obtain ⟨k, hk, rfl, HT, HW⟩ := hrel
      obtain ⟨m, rfl⟩ := HW.out
      by_cases hlt : k < n
      · have h1 : k < xs.length := by rw [Hn.out]; exact hlt
        have h2 : k < ys.length := by rw [Hm.out]; exact hlt
        have c0 := HC.out k h1
        have d0 := HC'.out k h2
        by_cases hv : xs[k] = ys[k]
        · have hv' : (xs[k] != ys[k]) = false := by simp [hv]
          have HT1 : Hid (xs.take (k + 1) = ys.take (k + 1)) := by show _ = _; rw [List.take_succ_eq_append_getElem h1, List.take_succ_eq_append_getElem h2, HT.out, hv]
          generalize xs[k] = c at *
          generalize ys[k] = d at *
          clear hv
          go_wp2
          go_quiet (fail)
          go_wp2
          go_roundw
          case measure => simp [intOf]; omega
          case rel => exact ⟨k + 1, by omega, by go_num, HT1, ⟨m + nq, by simp⟩⟩
        · have hv' : (xs[k] != ys[k]) = true := by simp [hv]
          have hne : Hid (r = false) := by
            show _ = _
            rw [Hr.out]; apply decide_eq_false; intro e; subst e; exact hv rfl
          generalize xs[k] = c at *
          generalize ys[k] = d at *
          clear hv
          go_wp2
          go_quiet (fail)
          go_wp2
          go_ret
          exact ⟨ret_boolH hne, m + nq, by simp⟩
      · have he : Hid (r = true) := by
          show _ = _
          rw [Hr.out]
          apply decide_eq_true
          have := HT.out
          rwa [List.take_of_length_le (by rw [Hn.out]; omega), List.take_of_length_le (by rw [Hm.out]; omega)] at this
        go_wp2
        go_ret
        exact ⟨ret_boolH he, m, rfl⟩
  · have hb : ((n : Int) != (m : Int)) = true := by simp; omega
    have he : Hid (r = false) := by
      show _ = _
      rw [Hr.out]
      apply decide_eq_false; intro e; subst e; omega
    clear hnm hn hm ha ha' hc hc'
    go_enter Tryz.func48, Tryz.ntmps48
    go_wp2
    go_ret
    exact ⟨ret_boolH he, 0, rfl⟩


attribute [local go_sem] rng_drewN
set_option maxRecDepth 100000 in
set_option maxHeartbeats 2000000 in
theorem sameU32_calls (w : World) (ok ok' : Nat → Prop) (v v' : Value) (cs : List Int) (h : RArr w ok 1 u32Cs v cs) (h' : RArr w ok' 1 u32Cs v' cs) :
    Calls Tryz.prog 88 #[v, v'] w fun e w' => e = .returned (.bool true) ∧ ∃ n, w' = w.drewN n := by
  obtain ⟨a, cap, b, off, rfl, hl, hm, hr, ha, hc⟩ := h
  obtain ⟨a', cap', b', off', rfl, hl', hm', hr', ha', hc'⟩ := h'
  obtain ⟨n, hn⟩ : ∃ n, n = cs.length := ⟨_, rfl⟩
  have Hn : Hid (n = cs.length) := hn
  rw [← hn] at hl hr ha hl' hr' ha' ⊢
  have hi := run_indexAt_arr (P := Tryz.prog) (cap := cap) Tryz.underlying29 Tryz.size48 (fun h => (ha h).1)
  have hi' := run_indexAt_arr (P := Tryz.prog) (cap := cap') Tryz.underlying29 Tryz.size48 (fun h => (ha' h).1)
  have HC := hide hc
  have HC' := hide hc'
  clear ha hc hn hm hl ha' hc' hm' hl'
  have hb : ((n : Int) != (n : Int)) = false := by simp
  go_enter Tryz.func88, Tryz.ntmps88
  go_wp2
  go_loopw [13] (fun i wr => ∃ k : Nat, k ≤ n ∧ i = .int .i64 k ∧ Hid (∃ m, wr = w.drewN m)) (fun i _ => n - (intOf i).toNat)
  case atStart => exact ⟨0, by omega, rfl, ⟨0, rfl⟩⟩
  case round =>
    obtain ⟨k, hk, rfl, HW⟩ := hrel
    obtain ⟨m, rfl⟩ := HW.out
    by_cases hlt : k < n
    · have hks : k < cs.length := by rw [← Hn.out]; exact hlt
      have c0 := (rng_cell (HC.out k hks)).2 0 (by decide)
      have d0 := (rng_cell (HC'.out k hks)).2 0 (by decide)
      simp only [u32Cs, List.getElem?_toArray, List.getElem?_cons_zero, Nat.add_zero, Nat.mul_one] at c0 d0
      generalize cs[k] = c at *
      go_wp2
      go_quiet (fail)
      go_wp2
      go_roundw
      case measure => simp [intOf]; omega
      case rel => exact ⟨k + 1, by omega, by go_num, ⟨m + nq, by simp⟩⟩
    · go_wp2
      go_ret
      exact ⟨rfl, m, rfl⟩

set_option maxRecDepth 100000 in
set_option maxHeartbeats 4000000 in
theorem samePairs_calls (w : World) (ok ok' : Nat → Prop) (x y : Value) (xs ys : List KV) (hx : PairsAt w ok x xs) (hy : PairsAt w ok' y ys) :
    Calls Tryz.prog 42 #[x, y] w fun e w' => e = .returned (.bool (decide (xs = ys))) ∧ ∃ n, w' = w.drewN n := by
  obtain ⟨r, hr⟩ : ∃ r, r = decide (xs = ys) := ⟨_, rfl⟩
  have Hr : Hid (r = decide (xs = ys)) := hr
  rw [← hr]
  clear hr
  obtain ⟨qx, ⟨a, cap, b, off, rfl, hl, hm, hrr, ha, hc⟩, hqx, hbx⟩ := hx
  obtain ⟨qy, ⟨a', cap', b', off', rfl, hl', hm', hrr', ha', hc'⟩, hqy, hby⟩ := hy
  obtain ⟨n, hn⟩ : ∃ n, qx.length = n := ⟨_, rfl⟩
  obtain ⟨m, hmm⟩ : ∃ m, qy.length = m := ⟨_, rfl⟩
  have Hn : Hid (qx.length = n) := hn
  have Hm : Hid (qy.length = m) := hmm
  have Hx : Hid (xs.length = n) := by rw [← hn]; exact hqx.symm
  have Hy : Hid (ys.length = m) := by rw [← hmm]; exact hqy.symm
  rw [hn] at hl hrr ha ⊢
  rw [hmm] at hl' hrr' ha' ⊢
  by_cases hnm : n = m
  · subst hnm
    have hi := run_indexAt_arr (P := Tryz.prog) (cap := cap) Tryz.underlying129 Tryz.size171 (fun h => (ha h).1)
    have hi' := run_indexAt_arr (P := Tryz.prog) (cap := cap') Tryz.underlying129 Tryz.size171 (fun h => (ha' h).1)
    have hb : ((n : Int) != (n : Int)) = false := by simp
    have HC := hide hc
    have HC' := hide hc'
    have HBX := hide hbx
    have HBY := hide hby
    clear hc hc' hbx hby hn hmm ha ha' hm hm' hl hl' hqx hqy
    go_enter Tryz.func42, Tryz.ntmps42
    go_wp2
    go_loopw [13] (fun i wr => ∃ k : Nat, k ≤ n ∧ i = .int .i64 k ∧ Hid (xs.take k = ys.take k) ∧ Hid (∃ m, wr = w.drewN m)) (fun i _ => n - (intOf i).toNat)
    case atStart => exact ⟨0, by omega, rfl, rfl, ⟨0, rfl⟩⟩
    case round =>
      obtain ⟨k, hk, rfl, HT, HW⟩ := hrel
      obtain ⟨m, hwm⟩ := HW.out
      have HBL : Hid (Below w.heap.size w wr) := by show Below _ _ _; rw [hwm]; exact below_drewN (Below.refl _ _) _
      have HSB : Hid (∀ g : Nat, wr.heap[g]? = w.heap[g]?) := fun g => by rw [hwm]; rfl
      have HWM := hide hwm
      clear hwm HW
      by_cases hlt : k < n
      · have h1 : k < qx.length := by rw [Hn.out]; exact hlt
        have h2 : k < qy.length := by rw [Hm.out]; exact hlt
        have h3 : k < xs.length := by rw [Hx.out]; exact hlt
        have h4 : k < ys.length := by rw [Hy.out]; exact hlt
        have c0 := (rng_cell ((rng_of_block (HSB.out b) _ _).trans (HC.out k h1))).2 0 (by decide)
        have c1 := (rng_cell ((rng_of_block (HSB.out b) _ _).trans (HC.out k h1))).2 1 (by decide)
        have d0 := (rng_cell ((rng_of_block (HSB.out b') _ _).trans (HC'.out k h2))).2 0 (by decide)
        have d1 := (rng_cell ((rng_of_block (HSB.out b') _ _).trans (HC'.out k h2))).2 1 (by decide)
        simp only [pairCs, List.getElem?_toArray, List.getElem?_cons_zero, List.getElem?_cons_succ, Nat.add_zero] at c0 c1 d0 d1
        obtain ⟨y1, y2⟩ := HBX.out k h3 h1
        obtain ⟨z1, z2⟩ := HBY.out k h4 h2
        have HK : Hid (∀ W, Below w.heap.size w W → Calls Tryz.prog 48 #[qx[k].1, qy[k].1] W fun e w' => e = .returned (.bool (decide (xs[k].1 = ys[k].1))) ∧ ∃ n, w' = W.drewN n) := fun W hW => sameBytes_calls _ _ _ _ _ _ _ (y1.below hW) (z1.below hW)
        have HV : Hid (∀ W, Below w.heap.size w W → Calls Tryz.prog 48 #[qx[k].2, qy[k].2] W fun e w' => e = .returned (.bool (decide (xs[k].2 = ys[k].2))) ∧ ∃ n, w' = W.drewN n) := fun W hW => sameBytes_calls _ _ _ _ _ _ _ (y2.below hW) (z2.below hW)
        obtain ⟨x1, n1, m1, g1⟩ := y1.form
        obtain ⟨x2, n2, m2, g2⟩ := y2.form
        obtain ⟨x3, n3, m3, g3⟩ := z1.form
        obtain ⟨x4, n4, m4, g4⟩ := z2.form
        rw [g1] at c0 HK
        rw [g2] at c1 HV
        rw [g3] at d0 HK
        rw [g4] at d1 HV
        have HNX : Hid (xs[k] = ys[k] → xs.take (k + 1) = ys.take (k + 1)) := fun e => by rw [List.take_succ_eq_append_getElem h3, List.take_succ_eq_append_getElem h4, HT.out, e]
        have HNE : Hid (xs[k] ≠ ys[k] → r = false) := fun e => by rw [Hr.out]; apply decide_eq_false; intro q; subst q; exact e rfl
        clear y1 y2 z1 z2 g1 g2 g3 g4
        generalize xs[k] = p at *
        generalize ys[k] = p' at *
        by_cases e1 : p.1 = p'.1
        · rw [decide_eq_true e1] at HK
          by_cases e2 : p.2 = p'.2
          · rw [decide_eq_true e2] at HV
            have HT1 := hide (HNX.out (Prod.ext e1 e2))
            clear e1 e2
            go_upto_region 6 with fail
            go_quiet (first | (go_at_call_of 48 n1; refine Calls.quiet_of (HK.out _ (below_drewN HBL.out _))) | (go_at_call_of 48 n2; refine Calls.quiet_of (HV.out _ (below_drewN HBL.out _))))
            go_wp2
            go_roundw
            case measure => simp [intOf]; omega
            case rel => exact ⟨k + 1, by omega, by go_num, HT1, ⟨m + nq, by rw [HWM.out]; simp⟩⟩
          · rw [decide_eq_false e2] at HV
            have HF : Hid (r = false) := HNE.out (fun q => e2 (by rw [q]))
            clear e1 e2
            go_upto_region 6 with fail
            go_quiet (first | (go_at_call_of 48 n1; refine Calls.quiet_of (HK.out _ (below_drewN HBL.out _))) | (go_at_call_of 48 n2; refine Calls.quiet_of (HV.out _ (below_drewN HBL.out _))))
            go_wp2
            go_ret
            exact ⟨ret_boolH HF, m + nq, by rw [HWM.out]; simp⟩
        · rw [decide_eq_false e1] at HK
          have HF : Hid (r = false) := HNE.out (fun q => e1 (by rw [q]))
          clear e1
          go_upto_region 6 with fail
          go_quiet ((go_at_call 48; refine Calls.quiet_of (HK.out _ (below_drewN HBL.out _))))
          go_wp2
          go_ret
          exact ⟨ret_boolH HF, m + nq, by rw [HWM.out]; simp⟩
      · have he : Hid (r = true) := by
          show _ = _
          rw [Hr.out]
          apply decide_eq_true
          have := HT.out
          rwa [List.take_of_length_le (by rw [Hx.out]; omega), List.take_of_length_le (by rw [Hy.out]; omega)] at this
        go_wp2
        go_ret
        exact ⟨ret_boolH he, m, HWM.out⟩
  · have hb : ((n : Int) != (m : Int)) = true := by simp; omega
    have he : Hid (r = false) := by
      show _ = _
      rw [Hr.out]
      apply decide_eq_false; intro e; subst e; have := Hx.out; have := Hy.out; omega
    clear hnm hn hmm ha ha' hc hc'
    go_enter Tryz.func42, Tryz.ntmps42
    go_wp2
    go_ret
    exact ⟨ret_boolH he, 0, rfl⟩

end Go.Proofs.Qxb6500666aGreatDoor
