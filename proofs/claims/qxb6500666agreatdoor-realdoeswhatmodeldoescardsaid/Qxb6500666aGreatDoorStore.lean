/- The store: same, clone, less, Get. -/
import Derived.Test.Qxb6500666aGreatDoorReadWalk
import Derived.BigQuiet
import Derived.Deep.QuietTactic
import Derived.Laws.CopyOwn
import Derived.Laws.MakeOwn
namespace Go.Proofs.Qxb6500666aGreatDoor
open Go.RowKit

/-- The rule for the bytes of a slice that lies at index 0 on. -/
theorem BytesAt.len {w : World} {ok : Nat → Prop} {v : Value} {xs : List Int} (h : BytesAt w ok v xs) : xs.length ≤ 140737488355328 := by
  obtain ⟨a, cap, b, off, rfl, h1, -⟩ := h.parts _ rfl; exact h1

theorem BytesAt.nil (w : World) (ok : Nat → Prop) : BytesAt w ok (.slice none 0 0) [] := RArr.nil _ _ _ _

theorem ret_boolH {r b : Bool} (h : Hid (r = b)) : Ending.returned (.bool b) = .returned (.bool r) := by rw [h.out]

set_option maxRecDepth 100000 in
set_option maxHeartbeats 1000000 in
theorem same_calls (w : World) (ok ok' : Nat → Prop) (x y : Value) (xs ys : List Int) (hx : BytesAt w ok x xs) (hy : BytesAt w ok' y ys) :
    Calls Tryz.prog 209 #[x, y] w fun e w' => e = .returned (.bool (decide (xs = ys))) ∧ ∃ n, w' = w.drewN n := by
  obtain ⟨r, hr⟩ : ∃ r, r = decide (xs = ys) := ⟨_, rfl⟩
  have Hr : Hid (r = decide (xs = ys)) := hr
  rw [← hr]
  clear hr
  obtain ⟨n, hn⟩ : ∃ n, xs.length = n := ⟨_, rfl⟩
  obtain ⟨m, hm⟩ : ∃ m, ys.length = m := ⟨_, rfl⟩
  obtain ⟨a, cap, b, off, rfl, hl, -, -, -, ha, hc⟩ := hx.parts n hn
  obtain ⟨a', cap', b', off', rfl, hl', -, -, -, ha', hc'⟩ := hy.parts m hm
  by_cases hnm : n = m
  · subst hnm
    have hi := run_indexAt_arr (P := Tryz.prog) (cap := cap) Tryz.underlying55 Tryz.size5 (fun h => (ha h).1)
    have hi' := run_indexAt_arr (P := Tryz.prog) (cap := cap') Tryz.underlying55 Tryz.size5 (fun h => (ha' h).1)
    have hb : ((n : Int) != (n : Int)) = false := by simp
    have HC := hide hc
    have HC' := hide hc'
    have Hn := hide hn
    have Hm := hide hm
    clear hc hc' hn hm ha ha'
    go_enter Tryz.func209, Tryz.ntmps209
    go_wp2
    go_loopw [13] (fun i wr => ∃ k : Nat, k ≤ n ∧ i = .int .i64 k ∧ Hid (xs.take k = ys.take k) ∧ Hid (∃ m, wr = w.drewN m)) (fun i _ => n - (intOf i).toNat)
    case atStart => exact ⟨0, by omega, rfl, rfl, ⟨0, rfl⟩⟩
    case round =>
      obtain ⟨k, hk, rfl, HT, HW⟩ := hrel
      obtain ⟨m, rfl⟩ := HW.out
      by_cases hlt : k < n
      · have h1 : k < xs.length := by rw [Hn.out]; exact hlt
        have h2 : k < ys.length := by rw [Hm.out]; exact hlt
        have c0 := HC.out k h1
        have d0 := HC'.out k h2
        by_cases hv : xs[k] = ys[k]
        · have hv' : (xs[k] != ys[k]) = false := by simp [hv]
          have HT1 : Hid (xs.take (k + 1) = ys.take (k + 1)) := by show _ = _; rw [List.take_succ_eq_append_getElem h1, List.take_succ_eq_append_getElem h2, HT.out, hv]
          generalize xs[k] = c at *
          generalize ys[k] = d at *
          clear hv
          go_wp2
          go_quiet (fail)
          go_wp2
          go_roundw
          case measure => simp [intOf]; omega
          case rel => exact ⟨k + 1, by omega, by go_num, HT1, ⟨m + nq, by simp⟩⟩
        · have hv' : (xs[k] != ys[k]) = true := by simp [hv]
          have hne : Hid (r = false) := by
            show _ = _
            rw [Hr.out]; apply decide_eq_false; intro e; subst e; exact hv rfl
          generalize xs[k] = c at *
          generalize ys[k] = d at *
          clear hv
          go_wp2
          go_quiet (fail)
          go_wp2
          go_ret
          exact ⟨ret_boolH hne, m + nq, by simp⟩
      · have he : Hid (r = true) := by
          show _ = _
          rw [Hr.out]
          apply decide_eq_true
          have := HT.out
          rwa [List.take_of_length_le (by rw [Hn.out]; omega), List.take_of_length_le (by rw [Hm.out]; omega)] at this
        go_wp2
        go_ret
        exact ⟨ret_boolH he, m, rfl⟩
  · have hb : ((n : Int) != (m : Int)) = true := by simp; omega
    have he : Hid (r = false) := by
      show _ = _
      rw [Hr.out]
      apply decide_eq_false; intro e; subst e; omega
    clear hnm hn hm ha ha' hc hc'
    go_enter Tryz.func209, Tryz.ntmps209
    go_wp2
    go_ret
    exact ⟨ret_boolH he, 0, rfl⟩

/-- Behind clone: a block more. -/
def cloneW (w : World) (bs : List Int) : World := w.alloc (.cells (bs.map (Value.int .u8)).toArray 5)
def cloneV (w : World) (bs : List Int) : Value := .slice (some ⟨w.heap.size, 0, none⟩) bs.length bs.length

theorem clone_bytes (w : World) (bs : List Int) (hl : bs.length ≤ 140737488355328) : BytesAt (cloneW w bs) (w.heap.size ≤ ·) (cloneV w bs) bs := by
  refine ⟨_, _, w.heap.size, 0, rfl, Nat.le_refl _, ⟨by unfold maxLen; omega, fun h => by cases h⟩, hl, fun _ => ⟨rfl, Nat.le_refl _⟩, fun i hi => ?_⟩
  apply rng_one
  simp [cloneW, hi]

theorem clone_below (w : World) (bs : List Int) : Below w.heap.size w (cloneW w bs) := (Below.refl _ _).alloc (Nat.le_refl _) _

set_option maxRecDepth 100000 in
set_option maxHeartbeats 1000000 in
theorem clone_calls (w : World) (ok : Nat → Prop) (x : Value) (xs : List Int) (hx : BytesAt w ok x xs) :
    Calls Tryz.prog 210 #[x] w fun e w' => e = .returned (cloneV w xs) ∧ cloneW w xs = w' := by
  obtain ⟨n, hn⟩ : ∃ n, xs.length = n := ⟨_, rfl⟩
  obtain ⟨a, cap, b, off, rfl, hl, -, -, -, ha, hc⟩ := hx.parts n hn
  obtain ⟨i, hinf, hz0, hz1, hz2⟩ := info_parts Tryz.info5
  have hmk := run_make (P := Tryz.prog) w 55 5 i _ Tryz.underlying55 hinf hz0 .i64 .i64 n n (by omega) (Int.le_refl _) (by rw [hz2]; omega) (by omega)
  simp only [hz1, Int.toNat_natCast, Nat.mul_one] at hmk
  generalize hm0 : madeCells (Value.int .u8 0).cells n = M at hmk
  have hM : M.size = n := by rw [← hm0]; exact size_madeCells _ _
  have hsz : (Tryz.prog.info? 5).map (·.size) = some 1 := by rw [hinf]; simp [hz1]
  rcases Nat.eq_zero_or_pos n with rfl | hpos
  · have hcp := fun ty => run_copy_none (P := Tryz.prog) (w.alloc (.cells M 5)) 55 55 ty 5 (some ⟨w.heap.size, 0, none⟩) a 0 0 0 cap Tryz.underlying55 hsz rfl
    rw [show ((0 : Nat) : Int) = 0 from rfl] at hmk
    have hx0 : xs = [] := by simpa using hn
    subst hx0
    have hM0 : M = #[] := by simpa using hM
    subst hM0
    clear hm0 hn ha hc hinf hz0 hz1 hz2 hsz hM
    go_enter Tryz.func210, Tryz.ntmps210
    go_wp2
    go_ret
    exact ⟨rfl, rfl⟩
  · obtain ⟨rfl, -, hbl⟩ := ha hpos
    have hcp := fun ty => run_copy_row (P := Tryz.prog) (w.alloc (.cells M 5)) 55 55 ty 5 w.heap.size 0 n n ⟨b, off, none⟩ n cap M 5 (xs.map (Value.int .u8)) Tryz.underlying55 hsz (heap_alloc_at _ _) (by simp [hn]) (fun j v hv => by
      have hj := (List.getElem?_eq_some_iff.1 hv).1
      simp at hj
      rw [Addr.add_lit, Below.cell ((Below.refl w.heap.size w).alloc (Nat.le_refl _) _) (p := ⟨b, off + j, none⟩) hbl, hc j hj]
      simpa [hj] using hv) (by simp [hn, hM]) (by simp [Value.oneCell'])
    have hdr : M.toList.drop (0 + (xs.map (Value.int .u8)).length) = [] := by simp [hn, ← hM]
    rw [hdr, setRow_alloc_at _ _ _ _ _ _ rfl] at hcp
    simp only [List.take_zero, List.nil_append, List.append_nil] at hcp
    have Hg : Hid (cloneV w xs = .slice (some ⟨w.heap.size, 0, none⟩) n n) := by show _ = _; rw [cloneV, hn]
    have Hw : Hid (cloneW w xs = w.alloc (.cells (xs.map (Value.int .u8)).toArray 5)) := rfl
    generalize hL : (xs.map (Value.int .u8)).toArray = L at hcp Hw
    generalize (xs.map (Value.int .u8)).length = K at hcp
    generalize cloneV w xs = V1 at Hg ⊢
    generalize cloneW w xs = W1 at Hw ⊢
    clear hm0 hn ha hc hinf hz0 hz1 hz2 hsz hM hdr hL
    go_enter Tryz.func210, Tryz.ntmps210
    go_wp2
    go_ret
    exact ⟨by rw [Hg.out]; rfl, Hw.out⟩

end Go.Proofs.Qxb6500666aGreatDoor
