/- A list reversed by swaps, from both ends. Plain. -/
import Derived.Test.Qxb6500666aGreatDoorSortZ
namespace Go.Proofs.Qxb6500666aGreatDoor
open Go.RowKit
/-- The first i places, and the last i, are swapped. -/
structure RevS {α : Type} (zs xs : List α) (i : Nat) : Prop where
  len : xs.length = zs.length
  at' : ∀ t (h : t < xs.length) (h' : zs.length - 1 - t < zs.length) (h'' : t < zs.length), xs[t] = if t < i ∨ zs.length - 1 - t < i then zs[zs.length - 1 - t] else zs[t]
section
variable {α : Type} {zs xs : List α} {i : Nat}
theorem RevS.start (zs : List α) : RevS zs zs 0 := ⟨rfl, fun t _ _ _ => by rw [if_neg (by omega)]⟩
theorem RevS.step (h : RevS zs xs i) (j : Nat) (hj : j = zs.length - 1 - i) (hlt : i < j) (h1 : i < xs.length) (h2 : j < xs.length) : RevS zs ((xs.set i xs[j]).set j xs[i]) (i + 1) := by
  have hl := h.len
  refine ⟨by simp [hl], fun t ht h' h'' => ?_⟩
  have ei := h.at' i h1 (by omega) (by omega)
  rw [if_neg (by omega)] at ei
  have ej := h.at' j h2 (by omega) (by omega)
  rw [if_neg (by omega)] at ej
  rw [List.getElem_set]
  by_cases hjt : j = t
  · subst hjt
    rw [if_pos rfl, if_pos (by omega), ei]
    congr 1
    omega
  · rw [if_neg hjt, List.getElem_set]
    by_cases hit : i = t
    · subst hit
      rw [if_pos rfl, if_pos (by omega), ej]
      congr 1
    · rw [if_neg hit, h.at' t (by rw [hl]; exact h'') h' h'']
      by_cases hc : t < i ∨ zs.length - 1 - t < i
      · rw [if_pos hc, if_pos (by omega)]
      · rw [if_neg hc, if_neg (by omega)]
theorem RevS.done (h : RevS zs xs i) (hi : zs.length - 1 - i ≤ i) : xs = zs.reverse := by
  refine List.ext_getElem (by simp [h.len]) (fun t h1 h2 => ?_)
  have hl := h.len
  have hz : t < zs.length := by omega
  rw [h.at' t h1 (by omega) hz, List.getElem_reverse]
  by_cases hc : t < i ∨ zs.length - 1 - t < i
  · rw [if_pos hc]
  · rw [if_neg hc]
    congr 1
    omega
end
end Go.Proofs.Qxb6500666aGreatDoor
