/- The sort: plain, and how it goes over an owned slice. -/
import Derived.Test.Qxb6500665aDoorDecVer
import Derived.Laws.CopyRow
namespace Go.Proofs.Qxb6500665aDoor
open Go.RowKit

section
variable {α : Type} (lt : α → α → Bool)
/-- The inner loop from place j on. -/
def sink : Nat → List α → List α
  | 0, xs => xs
  | j + 1, xs => match xs[j + 1]?, xs[j]? with
    | some a, some b => if lt a b then sink j ((xs.set (j + 1) b).set j a) else xs
    | _, _ => xs
def sortFrom : Nat → Nat → List α → List α
  | 0, _, xs => xs
  | c + 1, i, xs => sortFrom c (i + 1) (sink lt i xs)
def sortL (xs : List α) : List α := sortFrom lt (xs.length - 1) 1 xs

theorem sink_len : ∀ j (xs : List α), (sink lt j xs).length = xs.length
  | 0, xs => rfl
  | j + 1, xs => by
    unfold sink
    split
    · split
      · rw [sink_len j]; simp
      · rfl
    · rfl

theorem sink_hit {j : Nat} {xs : List α} (h : j + 1 < xs.length) (hl : lt xs[j + 1] xs[j] = true) : sink lt (j + 1) xs = sink lt j ((xs.set (j + 1) xs[j]).set j xs[j + 1]) := by
  conv => lhs; unfold sink
  simp [h, show j < xs.length by omega, hl]
theorem sink_miss {j : Nat} {xs : List α} (h : j + 1 < xs.length) (hl : lt xs[j + 1] xs[j] = false) : sink lt (j + 1) xs = xs := by
  unfold sink
  simp [h, show j < xs.length by omega, hl]
theorem sortFrom_step (c i : Nat) (xs : List α) : sortFrom lt (c + 1) i xs = sortFrom lt c (i + 1) (sink lt i xs) := rfl
end

theorem flat_set {α : Type} {f : α → Array Value} {size : Nat} (hf : ∀ x, (f x).size = size) : ∀ (xs : List α) (i : Nat) (_ : i < xs.length) (y : α),
    flat f (xs.set i y) = (flat f xs).take (i * size) ++ (f y).toList ++ (flat f xs).drop (i * size + size)
  | x :: r, 0, _, y => by
    simp only [List.set_cons_zero, flat, Nat.zero_mul, List.take_zero, List.nil_append, Nat.zero_add]
    rw [List.drop_left' (by simp [hf])]
  | x :: r, i + 1, h, y => by
    have hx : (f x).toList.length = size := by simp [hf]
    have e1 : (i + 1) * size = size + i * size := by rw [Nat.add_mul, Nat.one_mul, Nat.add_comm]
    have ht : ∀ k, ((f x).toList ++ flat f r).take (size + k) = (f x).toList ++ (flat f r).take k := fun k => by
      rw [← hx]; exact List.take_length_add_append k
    have hd : ∀ k, ((f x).toList ++ flat f r).drop (size + k) = (flat f r).drop k := fun k => by
      rw [← hx]; exact List.drop_length_add_append k
    simp only [List.set_cons_succ, flat]
    rw [flat_set hf r i (by simpa using h) y, e1, ht, Nat.add_assoc, hd]
    simp [List.append_assoc]

/-- A struct laid into place i of an owned slice. -/
theorem OwnR.put {α : Type} {P : Program} {w : World} {base : Nat} {e : TypeId} {size : Nat} {f : α → Array Value} {a : Option Addr} {n cap : Nat} {xs : List α} (h : OwnR w base e size f (.slice a n cap) xs) (hf : ∀ x, (f x).size = size) (h1 : ∀ x, ∀ u ∈ (f x).toList, u.oneCell' = true) (i : Nat) (hi : i < xs.length) (y : α) :
    ∃ g w', a = some ⟨g, 0, none⟩ ∧ (storeCells ⟨g, i * size, none⟩ (f y).toList 0).run P w = .ok () w' ∧ OwnR w' base e size f (.slice a n cap) (xs.set i y) ∧ (∀ b, b ≠ g → w'.heap[b]? = w.heap[b]?) ∧ w'.heap.size = w.heap.size ∧ Below base w w' ∧ base ≤ g ∧ g < w.heap.size := by
  obtain ⟨k1, k2⟩ := h
  rcases k2 with ⟨k2, k3⟩ | ⟨g, cap', cur, k2, hg, hh, r1, r2, r3, r4⟩
  · omega
  · injection k2 with q1 q2 q3
    subst q1 q3
    have hle : (i + 1) * size ≤ xs.length * size := Nat.mul_le_mul_right _ (by omega)
    have hle2 : xs.length * size ≤ cap * size := Nat.mul_le_mul_right _ r1
    rw [Nat.add_mul, Nat.one_mul] at hle
    have hfy : (f y).toList.length = size := by simp [hf]
    have hst := run_storeCells_at P g (i * size) e (f y).toList 0 cur w hh (by omega) (h1 y)
    simp only [Nat.add_zero, hfy] at hst
    refine ⟨g, _, rfl, hst, ⟨?_, Or.inr ⟨g, cap, _, by rw [q2, List.length_set], hg, setRow_heap w g cur _ e _ hh, by rw [List.length_set]; exact r1, r2, ?_, ?_⟩⟩, fun b hb => setRow_other _ _ _ _ hb, by simp, ⟨rfl, rfl, rfl, by simp, fun k hk => setRow_other _ _ _ _ (by omega)⟩, hg, (Array.getElem?_eq_some_iff.1 hh).1⟩
    · rw [flat_length hf, List.length_set]
    · have : cur.toList.length = cap * size := by simpa using r3
      simp only [List.size_toArray, List.length_append, List.length_take, List.length_drop, hfy, this]
      omega
    · rw [List.length_set, flat_set hf xs i hi y, ← r4]
      simp only
      have hcl : cur.toList.length = cap * size := by simpa using r3
      have hAB : (cur.toList.take (i * size) ++ (f y).toList).length = i * size + size := by rw [List.length_append, List.length_take, hfy]; omega
      rw [List.take_append, hAB, List.take_of_length_le (by rw [hAB]; exact hle), List.take_take, Nat.min_eq_left (by omega), List.drop_take]


/-- The elements of an owned slice, for the walk. -/
theorem OwnR.elem {α : Type} {w : World} {base : Nat} {e : TypeId} {size : Nat} {f : α → Array Value} {v : Value} {xs : List α} (h : OwnR w base e size f v xs) (hf : ∀ x, (f x).size = size) (hp : 0 < size) (hl : xs.length ≤ 140737488355328) (hpos : 0 < xs.length) :
    ∃ g cap, v = .slice (some ⟨g, 0, none⟩) xs.length cap ∧ base ≤ g ∧ g < w.heap.size ∧ ∀ i (hi : i < xs.length), rng w g (i * size) size = some (f xs[i]) := by
  have h0 := h
  rcases h.2 with ⟨h2, h3⟩ | ⟨g, cap, cur, h2, hg, hh, r⟩
  · omega
  · refine ⟨g, cap, h2, hg, (Array.getElem?_eq_some_iff.1 hh).1, fun i hi => ?_⟩
    have h1 := h0.rows hf hp hl
    obtain ⟨a, cap', b, off, k0, k1, k2, k3, k4, k5⟩ := h1
    rw [h2] at k0
    injection k0 with q1 q2 q3
    rw [(k4 hpos).1] at q1
    injection q1 with q1
    injection q1 with q4 q5
    subst q4 q5
    have := k5 i hi
    simpa using this

section
variable (ρ : Operand → Value) (dst : Option Tmp) (x y : Operand) (ty : TypeId) (pos : String) (after : Array Edge) (guard : Option (Nat × Bool))
theorem exec_ldVisit : execOp ρ { dst, op := .load 63 x, type := ty, pos, after, guard } = (do pure (.value (← ldS 63 (ρ x)))) := rfl
theorem exec_stVisit : execOp ρ { dst, op := .store 63 x y, type := ty, pos, after, guard } = (do stS 63 (ρ x) (ρ y); pure .skip) := rfl
end
theorem run_ldVisit (w : World) (b off : Nat) : (ldS 63 (.pointer (some ⟨b, off, none⟩))).run Tryd.prog w = match rng w b off 5 with | some cs => .ok (.agg cs) w | none => (Instr.loadAt 63 (.pointer (some ⟨b, off, none⟩))).run Tryd.prog w :=
  run_ldS Tryd.underlying63 Tryd.size63 w b off
theorem stVisit_eq (w : World) (g o : Nat) (cs : Array Value) (hcs : cs.size = 5) : (stS 63 (.pointer (some ⟨g, o, none⟩)) (.agg cs)).run Tryd.prog w = (storeCells ⟨g, o, none⟩ cs.toList 0).run Tryd.prog w := by
  simp [stS, Instr.storeAt, Instr.sureAddr, storeVar, Sem.run_bind, Value.cells, hcs]

end Go.Proofs.Qxb6500665aDoor
