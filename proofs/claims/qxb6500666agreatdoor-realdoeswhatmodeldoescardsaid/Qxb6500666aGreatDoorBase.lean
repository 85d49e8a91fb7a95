/- Slices in memory, as lists of rows of cells; frames. Nothing of the program. -/
import Derived.WalkKit
import Derived.ProofKit
import Derived.Deep.Slices
import Derived.OpenShut
import Derived.SizedLaws
namespace Go.Proofs.Qxb6500666aGreatDoor
open Go.RowKit

/-- The slice value v: its elements (size cells each) lie in w, in a block for which ok holds, and element i stands for xs[i] by E. -/
def Arr {α : Type} (w : World) (ok : Nat → Prop) (size : Nat) (E : List Value → α → Prop) (v : Value) (xs : List α) : Prop :=
  ∃ (a : Option Addr) (cap b off : Nat), v = .slice a xs.length cap ∧ xs.length ≤ cap ∧ (cap ≤ maxLen ∧ (a = none → cap = 0)) ∧ xs.length ≤ 140737488355328 ∧ (0 < xs.length → a = some ⟨b, off, none⟩ ∧ ok b) ∧
    ∀ i (h : i < xs.length), ∃ cs : List Value, cs.length = size ∧ E cs xs[i] ∧ ∀ j (hj : j < cs.length), w.cell? ⟨b, off + i * size + j, none⟩ = some cs[j]

theorem hide {p : Prop} (h : p) : Hid p := h

/-- Blocks for which ok holds are the same in w'. -/
def Same (ok : Nat → Prop) (w w' : World) : Prop := ∀ b, ok b → w'.heap[b]? = w.heap[b]?

theorem Same.cell {ok : Nat → Prop} {w w' : World} (h : Same ok w w') {b o : Nat} {s : Option Nat} (hb : ok b) : w'.cell? ⟨b, o, s⟩ = w.cell? ⟨b, o, s⟩ :=
  World.cell?_of_block (w := w) (h b hb)

theorem Same.refl (ok : Nat → Prop) (w : World) : Same ok w w := fun _ _ => rfl

theorem Same.trans {ok : Nat → Prop} {a b c : World} (h : Same ok a b) (k : Same ok b c) : Same ok a c := fun i hi => (k i hi).trans (h i hi)

theorem Same.mono {ok ok' : Nat → Prop} {w w' : World} (h : Same ok w w') (hk : ∀ b, ok' b → ok b) : Same ok' w w' := fun b hb => h b (hk b hb)

theorem Same.of_below {B : Nat} {w w' : World} (h : Below B w w') : Same (· < B) w w' := fun b hb => h.block b hb

theorem Arr.mono {α : Type} {w w' : World} {ok ok' : Nat → Prop} {size : Nat} {E E' : List Value → α → Prop} {v : Value} {xs : List α} (h : Arr w ok size E v xs)
    (hs : Same ok w w') (hok : ∀ b, ok b → ok' b) (hE : ∀ cs x, x ∈ xs → E cs x → E' cs x) : Arr w' ok' size E' v xs := by
  obtain ⟨a, cap, b, off, hv, hl, hm, hr, ha, hc⟩ := h
  refine ⟨a, cap, b, off, hv, hl, hm, hr, fun hp => ⟨(ha hp).1, hok _ (ha hp).2⟩, fun i hi => ?_⟩
  obtain ⟨cs, h1, h2, h3⟩ := hc i hi
  exact ⟨cs, h1, hE _ _ (List.getElem_mem hi) h2, fun j hj => by rw [hs.cell (ha (by omega)).2]; exact h3 j hj⟩

theorem Arr.len {α : Type} {w : World} {ok : Nat → Prop} {size : Nat} {E : List Value → α → Prop} {v : Value} {xs : List α} (h : Arr w ok size E v xs) : xs.length ≤ 140737488355328 := by
  obtain ⟨a, cap, b, off, hv, hl, hm, hr, _⟩ := h; exact hr

theorem Arr.nil {α : Type} (w : World) (ok : Nat → Prop) (size : Nat) (E : List Value → α → Prop) : Arr w ok size E (.slice none 0 0) [] :=
  ⟨none, 0, 0, 0, rfl, Nat.le_refl _, ⟨Nat.zero_le _, fun _ => rfl⟩, by simp, fun h => absurd h (by simp), fun i hi => absurd hi (by simp)⟩

theorem Arr.block_lt {α : Type} {w : World} {ok : Nat → Prop} {size : Nat} {E : List Value → α → Prop} {v : Value} {xs : List α} (h : Arr w ok size E v xs) (hp : 0 < size) : Arr w (fun b => ok b ∧ b < w.heap.size) size E v xs := by
  obtain ⟨a, cap, b, off, hv, hl, hm, hr, ha, hc⟩ := h
  refine ⟨a, cap, b, off, hv, hl, hm, hr, fun hp' => ⟨(ha hp').1, (ha hp').2, ?_⟩, hc⟩
  obtain ⟨cs, h1, h2, h3⟩ := hc 0 hp'
  have h4 := h3 0 (by omega)
  apply Classical.byContradiction
  intro hn
  have : w.heap[b]? = none := by simp; omega
  simp [World.cell?, this] at h4

/-- The rule for an index, for the walk's context: the slice's address need not be known to be no nil. -/
theorem run_indexAt_arr {P : Program} {t e : TypeId} {size : Nat} (ht : P.underlying t = some (.slice e)) (hs : ∀ w, (sizeOf e).run P w = .ok size w) {a : Option Addr} {b off n cap : Nat}
    (ha : 0 < n → a = some ⟨b, off, none⟩) (w : World) (k : Int) (h0 : 0 ≤ k) (h1 : k < n) :
    (Instr.indexAt t (.slice a n cap) (.int .i64 k)).run P w = .ok (.pointer (some ⟨b, off + k.toNat * size, none⟩)) w := by
  have hn : 0 < n := by omega
  rw [ha hn, run_indexAt_slice (P := P) w t ⟨b, off, none⟩ n cap .i64 k (by simp [Program.elem, ht])]
  simp [h0, h1, Program.elem, ht, hs, Addr.add_lit]

/-- No string, slice or map inside the datum takes more than the form's reach. -/
def Light {H : Type} (P : Program) (t : TypeId) (d : DataW H) : Prop := ∀ n, n ∈ d.weights P t → n ≤ reachBytes

theorem light_elem {H : Type} {P : Program} {e : TypeId} {l : List (DataW H)} {d : DataW H} (hd : d ∈ l) : ∀ n, n ∈ d.weights P e → n ∈ DataW.weightsAll P e l := by
  induction l with
  | nil => simp at hd
  | cons x r ih =>
    intro n hn
    simp only [DataW.weightsAll, List.mem_append]
    rcases List.mem_cons.1 hd with rfl | h
    · exact Or.inl hn
    · exact Or.inr (ih h n hn)

theorem light_field {H : Type} {P : Program} {t : TypeId} {fs : Array Field} {l : List (DataW H)} (ht : P.underlying t = some (.struct fs)) (h : Light P t (.agg l)) {i : Nat} {f : Field} {d : DataW H} (hf : fs[i]? = some f) (hd : l[i]? = some d) : Light P f.type d := by
  intro n hn
  refine h n ?_
  simp only [DataW.weights, ht]
  exact DataW.weights_mem_each (j := i) (t := f.type) (by simp [hf]) hd n hn

/-- A slice that was read as data, opened. -/
theorem arr_of_trod {H : Type} {enc : TypeId × Value → H} {P : Program} {w : World} {base : Nat} {spare : Nat → Bool} {held : Bool} {α : Type} {t e : TypeId} {size fuel : Nat} {cs : List Value} {x : DataW H × List MemPlace}
    {E : List Value → α → Prop} (ht : P.underlying t = some (.slice e)) (hsz : P.cellsOf e = size) (hp : 0 < size) (hby : 0 < P.bytesOf e)
    (hE : ∀ n cs y, DataW.trod enc P w base spare held n e cs = some y → Light P e y.1 → ∃ z, E cs z) (h : DataW.trod enc P w base spare held fuel t cs = some x) (hlt : Light P t x.1) :
    ∃ v xs, cs = [v] ∧ Arr w (· < w.heap.size) size E v (xs : List α) := by
  rcases Deep.open_slice ht h with ⟨rfl, rfl⟩ | ⟨a, len, cap, m, n, D, Pl, rfl, hb, hl, hm, hmm, rfl, hx⟩
  · exact ⟨_, [], rfl, Arr.nil _ _ _ _⟩
  rw [hsz] at hx
  have hlm : len ≤ m := by rw [hmm]; split <;> omega
  have hreach : len ≤ 140737488355328 := by
    have := hlt ((((List.range len).map D).length + ((List.range (m - len)).map fun j => D (len + j)).length) * P.bytesOf e) (by simp only [DataW.weights, ht]; exact List.mem_cons_self)
    simp only [List.length_map, List.length_range, reachBytes] at this
    have h1 : len * 1 ≤ (len + (m - len)) * P.bytesOf e := Nat.mul_le_mul (by omega) hby
    omega
  have hel : ∀ i, i < len → Light P e (D i) := fun i hi n hn => hlt n (by
    simp only [DataW.weights, ht]
    exact List.mem_cons_of_mem _ (List.mem_append.2 (Or.inl (light_elem (by simp; exact ⟨i, hi, rfl⟩) n hn))))
  have key : ∀ i, i < len → ∃ (z : α) (cs' : List Value), cs'.length = size ∧ E cs' z ∧ (∀ j (hj : j < cs'.length), w.cell? ((a.add (i * size)).add j) = some cs'[j]) := by
    intro i hi
    obtain ⟨cs', h1, h2⟩ := hx i (by omega)
    obtain ⟨_, hlen, hcell⟩ := World.cells?_some h1
    obtain ⟨z, hz⟩ := hE _ _ _ h2 (hel i hi)
    exact ⟨z, cs', hlen, hz, fun j hj => by rw [hcell j (by omega), List.getElem?_eq_getElem hj]⟩
  obtain ⟨xs, hxl, hxs⟩ : ∃ xs : List α, xs.length = len ∧ ∀ i (h : i < xs.length), ∃ cs' : List Value, cs'.length = size ∧ E cs' xs[i] ∧ (∀ j (hj : j < cs'.length), w.cell? ((a.add (i * size)).add j) = some cs'[j]) := by
    clear hx hmm hlm hl h hlt hreach hel
    induction len with
    | zero => exact ⟨[], rfl, fun i h => absurd h (by simp)⟩
    | succ k ih =>
      obtain ⟨xs, hxl, hxs⟩ := ih (fun i hi => key i (by omega))
      obtain ⟨z, hz⟩ := key k (by omega)
      refine ⟨xs ++ [z], by simp [hxl], fun i hi => ?_⟩
      by_cases hik : i < xs.length
      · rw [List.getElem_append_left hik]; exact hxs i hik
      · have : i = xs.length := by simp at hi; omega
        subst this
        obtain ⟨cs', a1, a2, a3⟩ := hz
        exact ⟨cs', a1, by simpa using a2, by rw [hxl]; exact a3⟩
  have hspot : 0 < len → a = ⟨a.block, a.off, none⟩ ∧ a.block < w.heap.size := by
    intro hpos
    obtain ⟨cs', h1, _, h3⟩ := hxs 0 (by omega)
    have h4 := h3 0 (by omega)
    simp only [Nat.zero_mul, Addr.add_zero'] at h4
    unfold World.cell? at h4
    split at h4
    · rename_i hh
      refine ⟨?_, ?_⟩
      · cases a with
        | mk b o s => cases s with
          | none => rfl
          | some s => simp at h4
      · exact (Array.getElem?_eq_some_iff.1 hh).1
    · simp at h4
  refine ⟨_, xs, rfl, ⟨some a, cap, a.block, a.off, by rw [hxl], by omega, ⟨by omega, fun h => by simp at h⟩, by omega, fun hpos => ?_, fun i hi => ?_⟩⟩
  · obtain ⟨h1, h2⟩ := hspot (by omega)
    exact ⟨by rw [← h1], h2⟩
  · obtain ⟨cs', h1, h2, h3⟩ := hxs i hi
    refine ⟨cs', h1, h2, fun j hj => ?_⟩
    have := h3 j hj
    rw [(hspot (by omega)).1, Deep.add_add] at this
    rw [← this]
    congr 1
    rw [Addr.add_lit, Nat.add_assoc]

/-- A list of equally many entries as another, a datum each. -/
theorem getElem_fields {α : Type} (l : List α) (n : Nat) (h : l.length = n) : ∀ i, i < n → ∃ x, l[i]? = some x := fun i hi => ⟨l[i], by simp⟩

end Go.Proofs.Qxb6500666aGreatDoor
