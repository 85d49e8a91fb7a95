/- Lists in memory whose length is bounded by the model's greatest length only; the walks of sameList over them. -/
import Derived.Test.Qxb6500666aGreatDoorCraM
namespace Go.Proofs.Qxb6500666aGreatDoor
open Go.RowKit

/-- The slice reads xs. -/
def RWk {α : Type} (w : World) (size : Nat) (f : α → Array Value) (v : Value) (xs : List α) : Prop :=
  ∃ (a : Option Addr) (cap b off : Nat), v = .slice a xs.length cap ∧ xs.length ≤ 9223372036854775807 ∧ (0 < xs.length → a = some ⟨b, off, none⟩) ∧ ∀ i (h : i < xs.length), rng w b (off + i * size) size = some (f xs[i])
section
variable {α : Type} {w w' : World} {size : Nat} {f : α → Array Value} {v : Value} {xs : List α}
theorem RWk.below (h : RWk w size f v xs) (hb : Below w.heap.size w w') : RWk w' size f v xs := by
  obtain ⟨a, cap, b, off, h1, h2, h3, h4⟩ := h
  exact ⟨a, cap, b, off, h1, h2, h3, fun i hi => by rw [rng_of_block (hb.block _ (rng_lt (h4 i hi)))]; exact h4 i hi⟩
theorem RWk.arr {ok : Nat → Prop} (h : RArr w ok size f v xs) : RWk w size f v xs := by
  obtain ⟨a, cap, b, off, h1, h2, h3, h4, h5, h6⟩ := h
  exact ⟨a, cap, b, off, h1, by omega, fun h => (h5 h).1, h6⟩
theorem RWk.nil : RWk w size f (.slice none 0 0) ([] : List α) := ⟨none, 0, 0, 0, rfl, by simp, fun h => absurd h (by simp), fun i h => absurd h (by simp)⟩
theorem RWk.own {base : Nat} {e : TypeId} (h : OwnR w base e size f v xs) (hf : ∀ x, (f x).size = size) (hp : 0 < size) : RWk w size f v xs := by
  obtain ⟨h1, h2⟩ := h
  rcases h2 with ⟨rfl, h0⟩ | ⟨g, cap, cur, rfl, hg, hh, r⟩
  · have hx : xs = [] := by
      have hz := flat_length hf xs
      cases xs with
      | nil => rfl
      | cons x r => simp_all
    subst hx
    exact RWk.nil
  · obtain ⟨r1, r2, r3, r4⟩ := r
    refine ⟨_, cap, g, 0, rfl, by unfold maxLen at r2; omega, fun _ => rfl, fun i hi => ?_⟩
    have hle : (i + 1) * size ≤ cap * size := Nat.mul_le_mul_right _ (by omega)
    have hle2 : (i + 1) * size ≤ xs.length * size := Nat.mul_le_mul_right _ (by omega)
    rw [Nat.add_mul, Nat.one_mul] at hle hle2
    unfold rng
    rw [hh]
    simp only [Nat.zero_add]
    rw [if_pos (by omega)]
    congr 1
    apply Array.ext
    · simp [hf]; omega
    · intro j h3 h4
      have hj : j < size := by rw [hf] at h4; exact h4
      have h5 := flat_at hf xs i j hi hj
      rw [← r4, List.getElem?_take_of_lt (by omega)] at h5
      have h6 : i * size + j < cur.size := by omega
      simp only [Array.getElem?_toList, Array.getElem?_eq_getElem h6, Array.getElem?_eq_getElem h4, Option.some.injEq] at h5
      rw [Array.getElem_extract]
      exact h5
end
section
attribute [local go_sem ↓] exec_neqChange exec_ldChange
attribute [local go_sem] run_neqChange run_ldChange changeCs_all rng_drewN
set_option maxRecDepth 100000 in
set_option maxHeartbeats 2000000 in
theorem sameChgW_calls (w : World) (v v' : Value) (cs : List Change) (h : RWk w 14 changeCs v cs) (h' : RWk w 14 changeCs v' cs) :
    Calls Tryz.prog 118 #[v, v'] w fun e w' => e = .returned (.bool true) ∧ ∃ n, w' = w.drewN n := by
  obtain ⟨a, cap, b, off, rfl, hr, ha, hc⟩ := h
  obtain ⟨a', cap', b', off', rfl, hr', ha', hc'⟩ := h'
  obtain ⟨n, hn⟩ : ∃ n, n = cs.length := ⟨_, rfl⟩
  have Hn : Hid (n = cs.length) := hn
  rw [← hn] at hr ha hr' ha' ⊢
  have hi := run_indexAt_arr (P := Tryz.prog) (cap := cap) Tryz.underlying57 Tryz.size111 (fun h => ha h)
  have hi' := run_indexAt_arr (P := Tryz.prog) (cap := cap') Tryz.underlying57 Tryz.size111 (fun h => ha' h)
  have HC := hide hc
  have HC' := hide hc'
  clear ha hc hn ha' hc'
  have hb : ((n : Int) != (n : Int)) = false := by simp
  go_enter Tryz.func118, Tryz.ntmps118
  go_wp2
  go_loopw [13] (fun i wr => ∃ k : Nat, k ≤ n ∧ i = .int .i64 k ∧ Hid (∃ m, wr = w.drewN m)) (fun i _ => n - (intOf i).toNat)
  case atStart => exact ⟨0, by omega, rfl, ⟨0, rfl⟩⟩
  case round =>
    obtain ⟨k, hk, rfl, HW⟩ := hrel
    obtain ⟨m, rfl⟩ := HW.out
    by_cases hlt : k < n
    · have hks : k < cs.length := by rw [← Hn.out]; exact hlt
      have c0 := HC.out k hks
      have d0 := HC'.out k hks
      generalize cs[k] = c at *
      go_wp2
      go_quiet (fail)
      go_wp2
      go_roundw
      case measure => simp [intOf]; omega
      case rel => exact ⟨k + 1, by omega, by go_num, ⟨m + nq, by simp⟩⟩
    · go_wp2
      go_ret
      exact ⟨rfl, m, rfl⟩
end
section
attribute [local go_sem ↓] exec_neqDif exec_ldDiff
attribute [local go_sem] run_neqDif run_ldDiff diffCs_ex rng_drewN
set_option maxRecDepth 100000 in
set_option maxHeartbeats 2000000 in
theorem sameDifW_calls (w : World) (v v' : Value) (cs : List Diff) (h : RWk w 5 diffCs v cs) (h' : RWk w 5 diffCs v' cs) :
    Calls Tryz.prog 74 #[v, v'] w fun e w' => e = .returned (.bool true) ∧ ∃ n, w' = w.drewN n := by
  obtain ⟨a, cap, b, off, rfl, hr, ha, hc⟩ := h
  obtain ⟨a', cap', b', off', rfl, hr', ha', hc'⟩ := h'
  obtain ⟨n, hn⟩ : ∃ n, n = cs.length := ⟨_, rfl⟩
  have Hn : Hid (n = cs.length) := hn
  rw [← hn] at hr ha hr' ha' ⊢
  have hi := run_indexAt_arr (P := Tryz.prog) (cap := cap) Tryz.underlying72 Tryz.size166_z (fun h => ha h)
  have hi' := run_indexAt_arr (P := Tryz.prog) (cap := cap') Tryz.underlying72 Tryz.size166_z (fun h => ha' h)
  have HC := hide hc
  have HC' := hide hc'
  clear ha hc hn ha' hc'
  have hb : ((n : Int) != (n : Int)) = false := by simp
  go_enter Tryz.func74, Tryz.ntmps74
  go_wp2
  go_loopw [13] (fun i wr => ∃ k : Nat, k ≤ n ∧ i = .int .i64 k ∧ Hid (∃ m, wr = w.drewN m)) (fun i _ => n - (intOf i).toNat)
  case atStart => exact ⟨0, by omega, rfl, ⟨0, rfl⟩⟩
  case round =>
    obtain ⟨k, hk, rfl, HW⟩ := hrel
    obtain ⟨m, rfl⟩ := HW.out
    by_cases hlt : k < n
    · have hks : k < cs.length := by rw [← Hn.out]; exact hlt
      have c0 := HC.out k hks
      have d0 := HC'.out k hks
      generalize cs[k] = c at *
      go_wp2
      go_quiet (fail)
      go_wp2
      go_roundw
      case measure => simp [intOf]; omega
      case rel => exact ⟨k + 1, by omega, by go_num, ⟨m + nq, by simp⟩⟩
    · go_wp2
      go_ret
      exact ⟨rfl, m, rfl⟩
end
section
attribute [local go_sem ↓] exec_neqHel exec_ldHel
attribute [local go_sem] run_neqHel run_ldHel heldCs_ex rng_drewN
set_option maxRecDepth 100000 in
set_option maxHeartbeats 2000000 in
theorem sameHelW_calls (w : World) (v v' : Value) (cs : List HeldR) (h : RWk w 3 heldCs v cs) (h' : RWk w 3 heldCs v' cs) :
    Calls Tryz.prog 125 #[v, v'] w fun e w' => e = .returned (.bool true) ∧ ∃ n, w' = w.drewN n := by
  obtain ⟨a, cap, b, off, rfl, hr, ha, hc⟩ := h
  obtain ⟨a', cap', b', off', rfl, hr', ha', hc'⟩ := h'
  obtain ⟨n, hn⟩ : ∃ n, n = cs.length := ⟨_, rfl⟩
  have Hn : Hid (n = cs.length) := hn
  rw [← hn] at hr ha hr' ha' ⊢
  have hi := run_indexAt_arr (P := Tryz.prog) (cap := cap) underHelS sizeHel (fun h => ha h)
  have hi' := run_indexAt_arr (P := Tryz.prog) (cap := cap') underHelS sizeHel (fun h => ha' h)
  have HC := hide hc
  have HC' := hide hc'
  clear ha hc hn ha' hc'
  have hb : ((n : Int) != (n : Int)) = false := by simp
  go_enter Tryz.func125, Tryz.ntmps125
  go_wp2
  go_loopw [13] (fun i wr => ∃ k : Nat, k ≤ n ∧ i = .int .i64 k ∧ Hid (∃ m, wr = w.drewN m)) (fun i _ => n - (intOf i).toNat)
  case atStart => exact ⟨0, by omega, rfl, ⟨0, rfl⟩⟩
  case round =>
    obtain ⟨k, hk, rfl, HW⟩ := hrel
    obtain ⟨m, rfl⟩ := HW.out
    by_cases hlt : k < n
    · have hks : k < cs.length := by rw [← Hn.out]; exact hlt
      have c0 := HC.out k hks
      have d0 := HC'.out k hks
      generalize cs[k] = c at *
      go_wp2
      go_quiet (fail)
      go_wp2
      go_roundw
      case measure => simp [intOf]; omega
      case rel => exact ⟨k + 1, by omega, by go_num, ⟨m + nq, by simp⟩⟩
    · go_wp2
      go_ret
      exact ⟨rfl, m, rfl⟩
end
section
attribute [local go_sem ↓] exec_neqHel
attribute [local go_sem] run_neqHel rng_drewN
set_option maxRecDepth 100000 in
set_option maxHeartbeats 2000000 in
theorem sameBytW_calls (w : World) (v v' : Value) (cs : List Int) (h : RWk w 1 byteCs v cs) (h' : RWk w 1 byteCs v' cs) :
    Calls Tryz.prog 48 #[v, v'] w fun e w' => e = .returned (.bool true) ∧ ∃ n, w' = w.drewN n := by
  obtain ⟨a, cap, b, off, rfl, hr, ha, hc⟩ := h
  obtain ⟨a', cap', b', off', rfl, hr', ha', hc'⟩ := h'
  obtain ⟨n, hn⟩ : ∃ n, n = cs.length := ⟨_, rfl⟩
  have Hn : Hid (n = cs.length) := hn
  rw [← hn] at hr ha hr' ha' ⊢
  have hi := run_indexAt_arr (P := Tryz.prog) (cap := cap) Tryz.underlying55 Tryz.size5 (fun h => ha h)
  have hi' := run_indexAt_arr (P := Tryz.prog) (cap := cap') Tryz.underlying55 Tryz.size5 (fun h => ha' h)
  have HC := hide hc
  have HC' := hide hc'
  clear ha hc hn ha' hc'
  have hb : ((n : Int) != (n : Int)) = false := by simp
  go_enter Tryz.func48, Tryz.ntmps48
  go_wp2
  go_loopw [13] (fun i wr => ∃ k : Nat, k ≤ n ∧ i = .int .i64 k ∧ Hid (∃ m, wr = w.drewN m)) (fun i _ => n - (intOf i).toNat)
  case atStart => exact ⟨0, by omega, rfl, ⟨0, rfl⟩⟩
  case round =>
    obtain ⟨k, hk, rfl, HW⟩ := hrel
    obtain ⟨m, rfl⟩ := HW.out
    by_cases hlt : k < n
    · have hks : k < cs.length := by rw [← Hn.out]; exact hlt
      have c0 := HC.out k hks
      have d0 := HC'.out k hks
      replace c0 : w.cell? ⟨b, off + k, none⟩ = some (.int .u8 cs[k]) := by have := (rng_cell c0).2 0 (by decide); simpa [byteCs] using this
      replace d0 : w.cell? ⟨b', off' + k, none⟩ = some (.int .u8 cs[k]) := by have := (rng_cell d0).2 0 (by decide); simpa [byteCs] using this
      have hcc : (cs[k] != cs[k]) = false := by simp
      generalize cs[k] = c at *
      go_wp2
      go_quiet (fail)
      go_wp2
      go_roundw
      case measure => simp [intOf]; omega
      case rel => exact ⟨k + 1, by omega, by go_num, ⟨m + nq, by simp⟩⟩
    · go_wp2
      go_ret
      exact ⟨rfl, m, rfl⟩
end
end Go.Proofs.Qxb6500666aGreatDoor
