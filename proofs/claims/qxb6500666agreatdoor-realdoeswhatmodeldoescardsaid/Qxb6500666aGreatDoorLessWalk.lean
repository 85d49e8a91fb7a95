/- less, walked. -/
import Derived.Test.Qxb6500666aGreatDoorStoreWalk
namespace Go.Proofs.Qxb6500666aGreatDoor
open Go.RowKit

/-- Dictionary order. -/
def ltB : List Int → List Int → Bool
  | _, [] => false
  | [], _ :: _ => true
  | x :: r, y :: s => if x = y then ltB r s else decide (x < y)

theorem ltB_drop {xs ys : List Int} {q : Nat} (h1 : q < xs.length) (h2 : q < ys.length) : ltB (xs.drop q) (ys.drop q) = if xs[q] = ys[q] then ltB (xs.drop (q + 1)) (ys.drop (q + 1)) else decide (xs[q] < ys[q]) := by
  rw [List.drop_eq_getElem_cons h1, List.drop_eq_getElem_cons h2, ltB]
theorem ltB_end {xs ys : List Int} {q : Nat} (h : xs.length ≤ q ∨ ys.length ≤ q) (hx : q ≤ xs.length) (hy : q ≤ ys.length) : ltB (xs.drop q) (ys.drop q) = decide (xs.length < ys.length) := by
  rcases h with h | h
  · rw [List.drop_of_length_le h]
    by_cases h2 : q < ys.length
    · rw [List.drop_eq_getElem_cons h2, ltB, eq_comm]; exact decide_eq_true (by omega)
    · rw [List.drop_of_length_le (by omega), ltB, eq_comm]; exact decide_eq_false (by omega)
  · rw [List.drop_of_length_le h]
    have : ∀ l : List Int, ltB l [] = false := fun l => by cases l <;> rfl
    rw [this, eq_comm]
    exact decide_eq_false (by omega)

theorem drew3 (w : World) (a b c : Nat) : ∃ n, ((w.drewN a).drewN b).drewN c = w.drewN n := ⟨a + b + c, by simp⟩

set_option maxRecDepth 100000 in
set_option maxHeartbeats 1000000 in
theorem less_calls (w : World) (ok ok' : Nat → Prop) (x y : Value) (xs ys : List Int) (hx : BytesAt w ok x xs) (hy : BytesAt w ok' y ys) :
    Calls Tryz.prog 260 #[x, y] w fun e w' => e = .returned (.bool (ltB xs ys)) ∧ ∃ n, w' = w.drewN n := by
  obtain ⟨r, hr⟩ : ∃ r, r = ltB xs ys := ⟨_, rfl⟩
  have Hr : Hid (r = ltB (xs.drop 0) (ys.drop 0)) := hr
  rw [← hr]
  clear hr
  obtain ⟨n, hn⟩ : ∃ n, xs.length = n := ⟨_, rfl⟩
  obtain ⟨m, hm⟩ : ∃ m, ys.length = m := ⟨_, rfl⟩
  obtain ⟨a, cap, b, off, rfl, hl, -, -, -, ha, hc⟩ := hx.parts n hn
  obtain ⟨a', cap', b', off', rfl, hl', -, -, -, ha', hc'⟩ := hy.parts m hm
  have hi := run_indexAt_arr (P := Tryz.prog) (cap := cap) Tryz.underlying55 Tryz.size5 (fun h => (ha h).1)
  have hi' := run_indexAt_arr (P := Tryz.prog) (cap := cap') Tryz.underlying55 Tryz.size5 (fun h => (ha' h).1)
  have HC := hide hc
  have HC' := hide hc'
  have Hn := hide hn
  have Hm := hide hm
  clear hc hc' hn hm ha ha'
  go_enter Tryz.func260, Tryz.ntmps260
  go_wp2
  go_loopw [5] (fun i wr => ∃ k : Nat, k ≤ n ∧ k ≤ m ∧ i = .int .i64 k ∧ Hid (r = ltB (xs.drop k) (ys.drop k)) ∧ Hid (∃ m, wr = w.drewN m)) (fun i _ => n - (intOf i).toNat)
  case atStart => exact ⟨0, by omega, by omega, rfl, Hr, ⟨0, rfl⟩⟩
  case round =>
    obtain ⟨k, hk, hkm, rfl, HT, HW⟩ := hrel
    obtain ⟨dm, rfl⟩ := HW.out
    by_cases hlt : k < n
    · by_cases hlt2 : k < m
      · have h1 : k < xs.length := by rw [Hn.out]; exact hlt
        have h2 : k < ys.length := by rw [Hm.out]; exact hlt2
        have c0 := HC.out k h1
        have d0 := HC'.out k h2
        have HE := hide (HT.out.trans (ltB_drop h1 h2))
        generalize xs[k] = c at *
        generalize ys[k] = d at *
        by_cases hv : c = d
        · have hv' : (c != d) = false := by simp [hv]
          have HT1 : Hid (r = ltB (xs.drop (k + 1)) (ys.drop (k + 1))) := by show _ = _; rw [HE.out, if_pos hv]
          clear hv
          go_upto_region 4 with fail
          go_quiet (fail)
          go_wp2
          go_roundw
          case measure => simp [intOf]; omega
          case rel => exact ⟨k + 1, by omega, by omega, by go_num, HT1, ⟨dm + nq, by simp⟩⟩
        · have hv' : (c != d) = true := by simp [hv]
          have HT1 : Hid (r = decide (c < d)) := by show _ = _; rw [HE.out, if_neg hv]
          clear hv
          go_upto_region 4 with fail
          go_quiet (fail)
          go_upto_region 5 with fail
          go_quiet (fail)
          go_wp2
          go_ret
          exact ⟨ret_boolH HT1, drew3 _ _ _ _⟩
      · have HE : Hid (r = decide (n < m)) := by
          show _ = _
          rw [HT.out, ltB_end (Or.inr (by rw [Hm.out]; omega)) (by rw [Hn.out]; exact hk) (by rw [Hm.out]; exact hkm), Hn.out, Hm.out]
        have hd : decide ((k : Int) < (m : Int)) = false := decide_eq_false (by omega)
        go_wp2
        go_ret
        exact ⟨ret_boolH HE, dm, rfl⟩
    · have HE : Hid (r = decide (n < m)) := by
        show _ = _
        rw [HT.out, ltB_end (Or.inl (by rw [Hn.out]; omega)) (by rw [Hn.out]; exact hk) (by rw [Hm.out]; exact hkm), Hn.out, Hm.out]
      have hd : decide ((k : Int) < (n : Int)) = false := decide_eq_false (by omega)
      go_wp2
      go_ret
      exact ⟨ret_boolH HE, dm, rfl⟩

end Go.Proofs.Qxb6500666aGreatDoor
