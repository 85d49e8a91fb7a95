/- sameIDs, walked. -/
import Derived.Test.Qxb6500665aDoorModLap
namespace Go.Proofs.Qxb6500665aDoor
open Go.RowKit Go.Proofs.Qxb6500665aDoor.Cal

set_option maxRecDepth 100000 in
set_option maxHeartbeats 1000000 in
theorem sameIDs_calls (w : World) (ok ok' : Nat → Prop) (x y : Value) (xs ys : List Int) (hx : U32sAt w ok x xs) (hy : U32sAt w ok' y ys) :
    Calls Tryd.prog 14 #[x, y] w fun e w' => e = .returned (.bool (decide (xs = ys))) ∧ ∃ n, w' = w.drewN n := by
  obtain ⟨r, hr⟩ : ∃ r, r = decide (xs = ys) := ⟨_, rfl⟩
  have Hr : Hid (r = decide (xs = ys)) := hr
  rw [← hr]
  clear hr
  obtain ⟨n, hn⟩ : ∃ n, xs.length = n := ⟨_, rfl⟩
  obtain ⟨m, hm⟩ : ∃ m, ys.length = m := ⟨_, rfl⟩
  obtain ⟨a, cap, b, off, rfl, hl, -, -, -, ha, hc⟩ := hx.parts n hn
  obtain ⟨a', cap', b', off', rfl, hl', -, -, -, ha', hc'⟩ := hy.parts m hm
  by_cases hnm : n = m
  · subst hnm
    have hi := run_indexAt_arr (P := Tryd.prog) (cap := cap) Tryd.underlying31 Tryd.size29 (fun h => (ha h).1)
    have hi' := run_indexAt_arr (P := Tryd.prog) (cap := cap') Tryd.underlying31 Tryd.size29 (fun h => (ha' h).1)
    have hb : ((n : Int) != (n : Int)) = false := by simp
    have HC := hide hc
    have HC' := hide hc'
    have Hn := hide hn
    have Hm := hide hm
    clear hc hc' hn hm ha ha'
    go_enter Tryd.func14, Tryd.ntmps14
    go_wp2
    go_loopw [13] (fun i wr => ∃ k : Nat, k ≤ n ∧ i = .int .i64 k ∧ Hid (xs.take k = ys.take k) ∧ Hid (∃ m, wr = w.drewN m)) (fun i _ => n - (intOf i).toNat)
    case atStart => exact ⟨0, by omega, rfl, rfl, ⟨0, rfl⟩⟩
    case round =>
      obtain ⟨k, hk, rfl, HT, HW⟩ := hrel
      obtain ⟨m, rfl⟩ := HW.out
      by_cases hlt : k < n
      · have h1 : k < xs.length := by rw [Hn.out]; exact hlt
        have h2 : k < ys.length := by rw [Hm.out]; exact hlt
        have c0 := HC.out k h1
        have d0 := HC'.out k h2
        by_cases hv : xs[k] = ys[k]
        · have hv' : (xs[k] != ys[k]) = false := by simp [hv]
          have HT1 : Hid (xs.take (k + 1) = ys.take (k + 1)) := by show _ = _; rw [List.take_succ_eq_append_getElem h1, List.take_succ_eq_append_getElem h2, HT.out, hv]
          generalize xs[k] = c at *
          generalize ys[k] = d at *
          clear hv
          go_wp2
          go_quiet (fail)
          go_wp2
          go_roundw
          case measure => simp [intOf]; omega
          case rel => exact ⟨k + 1, by omega, by go_num, HT1, ⟨m + nq, by simp⟩⟩
        · have hv' : (xs[k] != ys[k]) = true := by simp [hv]
          have hne : Hid (r = false) := by
            show _ = _
            rw [Hr.out]; apply decide_eq_false; intro e; subst e; exact hv rfl
          generalize xs[k] = c at *
          generalize ys[k] = d at *
          clear hv
          go_wp2
          go_quiet (fail)
          go_wp2
          go_ret
          exact ⟨ret_bool hne, m + nq, by simp⟩
      · have he : Hid (r = true) := by
          show _ = _
          rw [Hr.out]
          apply decide_eq_true
          have := HT.out
          rwa [List.take_of_length_le (by rw [Hn.out]; omega), List.take_of_length_le (by rw [Hm.out]; omega)] at this
        go_wp2
        go_ret
        exact ⟨ret_bool he, m, rfl⟩
  · have hb : ((n : Int) != (m : Int)) = true := by simp; omega
    have he : Hid (r = false) := by
      show _ = _
      rw [Hr.out]
      apply decide_eq_false; intro e; subst e; omega
    clear hnm hn hm ha ha' hc hc'
    go_enter Tryd.func14, Tryd.ntmps14
    go_wp2
    go_ret
    exact ⟨ret_bool he, 0, rfl⟩

end Go.Proofs.Qxb6500665aDoor
