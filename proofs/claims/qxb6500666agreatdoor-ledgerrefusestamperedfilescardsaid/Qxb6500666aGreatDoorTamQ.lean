/- LedgerRefusesTamperedFiles: a file in hand, its lines in memory of its own. -/
import Derived.Test.Qxb6500666aGreatDoorTamF
import Derived.Test.Qxb6500666aGreatDoorDmg
namespace Go.Proofs.Qxb6500666aGreatDoor
open Go.RowKit

/-- A file in the block B, its lines in blocks from lo on. -/
structure GA (W : World) (B lo : Nat) (f : File) (v : SV) : Prop where
  top : W.heap[B]? = some (.cells (fileCs f.kind f.seq f.issued f.base v.1 v.2.1 v.2.2) 59 (0, 0))
  own : OwnR W lo 111 14 changeCs (sv v) f.changes
  lt : B < lo
section
variable {W W' : World} {B lo : Nat} {f g : File} {v : SV}
theorem GA.below (h : GA W B lo f v) (hb : Below W.heap.size W W') : GA W' B lo f v := ⟨(hb.block _ (blk_lt h.top)).trans h.top, h.own.below hb (Nat.le_refl _), h.lt⟩
theorem GA.five (h : GA W B lo f v) : W.cell? ⟨B, 0, none⟩ = some (.int .u8 f.kind) ∧ W.cell? ⟨B, 1, none⟩ = some (.int .u32 f.seq) ∧ W.cell? ⟨B, 2, none⟩ = some (.int .i64 f.issued) ∧ W.cell? ⟨B, 3, none⟩ = some (.int .u32 f.base) ∧ W.cell? ⟨B, 4, none⟩ = some (.slice v.1 v.2.1 v.2.2) ∧ (∀ j, W.frozen? ⟨B, j, none⟩ = false) ∧ B < W.heap.size :=
  ⟨cells_all h.top 0, cells_all h.top 1, cells_all h.top 2, cells_all h.top 3, cells_all h.top 4, fun j => by simp [World.frozen?, h.top], blk_lt h.top⟩
/-- A field written. -/
theorem GA.set (h : GA W B lo f v) {j : Nat} {x : Value} (e : (fileCs f.kind f.seq f.issued f.base v.1 v.2.1 v.2.2).setIfInBounds j x = fileCs g.kind g.seq g.issued g.base v.1 v.2.1 v.2.2) (hc : g.changes = f.changes) : (∃ v', GA (W.setCell ⟨B, j, none⟩ x) B lo g v') ∧ Below B W (W.setCell ⟨B, j, none⟩ x) := by
  refine ⟨⟨v, ⟨?_, ?_, h.lt⟩⟩, (Below.refl _ _).setCell (p := ⟨B, j, none⟩) (Nat.le_refl _) _⟩
  · rw [heap_set3 h.top, e]
  · rw [hc]
    exact h.own.mono (fun b hb => Below.heap_setCell _ _ _ _ (by have := (h.own.block b hb).1; have := h.lt; show b ≠ B; omega))
end
/-- A closure turns the file f into g. -/
def CIn (W0 : World) (F : Nat) (caps : Array Value) (f g : File) : Prop := ∀ (W : World) (B lo : Nat) (v : SV), Below W0.heap.size W0 W → W0.heap.size ≤ B → GA W B lo f v →
  Calls Tryz.prog F (#[.pointer (some ⟨B, 0, none⟩)] ++ caps) W fun e W' => e = .returned (.tuple #[]) ∧ (∃ v', GA W' B lo g v') ∧ Below B W W'

theorem flat_setC {α : Type} {f : α → Array Value} {size : Nat} (hf : ∀ x, (f x).size = size) {j : Nat} {u : Value} (hj : j < size) : ∀ (xs : List α) (i : Nat) (hi : i < xs.length) (y : α), f y = (f xs[i]).setIfInBounds j u → (flat f xs).set (i * size + j) u = flat f (xs.set i y)
  | [], i, hi, _, _ => by simp at hi
  | x :: r, 0, _, y, h => by
    have h : f y = (f x).setIfInBounds j u := h
    show ((f x).toList ++ flat f r).set (0 * size + j) u = (f y).toList ++ flat f r
    rw [Nat.zero_mul, Nat.zero_add, List.set_append_left _ _ (by simp [hf]; exact hj), h]
    simp
  | x :: r, i + 1, hi, y, h => by
    have ih := flat_setC hf hj r i (by simpa using hi) y h
    show ((f x).toList ++ flat f r).set ((i + 1) * size + j) u = (f x).toList ++ flat f (r.set i y)
    have hx : (f x).toList.length = size := by simp [hf]
    rw [List.set_append_right _ _ (by rw [hx, Nat.add_mul]; omega), hx, show (i + 1) * size + j - size = i * size + j by rw [Nat.add_mul]; omega, ih]
/-- One cell of an owned element, written. -/
theorem OwnR.setOne {α : Type} {w : World} {base : Nat} {e : TypeId} {size : Nat} {f : α → Array Value} {a : Option Addr} {n cap : Nat} {xs : List α} (h : OwnR w base e size f (.slice a n cap) xs) (hf : ∀ x, (f x).size = size) (i : Nat) (hi : i < xs.length) (j : Nat) (hj : j < size) (u : Value) (y : α) (hy : f y = (f xs[i]).setIfInBounds j u) :
    ∃ g, a = some ⟨g, 0, none⟩ ∧ OwnR (w.setCell ⟨g, i * size + j, none⟩ u) base e size f (.slice a n cap) (xs.set i y) ∧ base ≤ g ∧ g < w.heap.size ∧ (∀ q, w.frozen? ⟨g, q, none⟩ = false) := by
  obtain ⟨k1, k2⟩ := h
  rcases k2 with ⟨k2, k3⟩ | ⟨g, cap', cur, k2, hg, hh, r1, r2, r3, r4⟩
  · omega
  · injection k2 with q1 q2 q3
    subst q1 q3
    refine ⟨g, rfl, ⟨?_, Or.inr ⟨g, cap, _, by rw [q2, List.length_set], hg, heap_set3 hh, by rw [List.length_set]; exact r1, r2, by simpa using r3, ?_⟩⟩, hg, (Array.getElem?_eq_some_iff.1 hh).1, fun q => by simp [World.frozen?, hh]⟩
    · rw [flat_length hf, List.length_set]
    · rw [List.length_set, Array.toList_setIfInBounds, List.take_set, r4]
      exact flat_setC hf hj xs i hi y hy
theorem run_slToI {P : Program} {t e : TypeId} (ht : P.underlying t = some (.slice e)) {size : Nat} (hs : ∀ w, (sizeOf e).run P w = .ok size w) {b off n cap : Nat} (hcap : n ≤ cap) (i : Nat) (hi : i ≤ n) (w : World) :
    (Instr.sliceAt t (.slice (some ⟨b, off, none⟩) n cap) none (some (.int .i64 (i : Int))) none).run P w = .ok (.slice (some ⟨b, off, none⟩) i cap) w := by
  have h2 : i ≤ cap := by omega
  simp [Instr.sliceAt, Instr.slice, run_underlying ht, hs, Instr.sliceBounds, Instr.sliceBound, asIntOf, h2, Addr.add_lit]
end Go.Proofs.Qxb6500666aGreatDoor
