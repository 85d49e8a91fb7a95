/- Structs as wholes: a row of cells that is loaded, stored, allocated without being laid open. Nothing of the program. -/
import Derived.Test.Qxb6500666aGreatDoorBase
import Derived.Deep.Draws
namespace Go.Proofs.Qxb6500666aGreatDoor
open Go.RowKit

/-- The n cells from off on in block b. -/
def rng (w : World) (b off n : Nat) : Option (Array Value) :=
  match w.heap[b]? with
  | some (.cells c _ _) => if off + n ≤ c.size then some (c.extract off (off + n)) else none
  | _ => none

theorem rng_of_block {w w' : World} {b : Nat} (h : w'.heap[b]? = w.heap[b]?) (off n : Nat) : rng w' b off n = rng w b off n := by
  unfold rng; rw [h]

theorem rng_cell {w : World} {b off n : Nat} {cs : Array Value} (h : rng w b off n = some cs) : cs.size = n ∧ ∀ j, j < n → w.cell? ⟨b, off + j, none⟩ = cs[j]? := by
  unfold rng at h
  split at h
  · rename_i c t fr hb
    split at h
    · rename_i hle
      simp only [Option.some.injEq] at h
      subst h
      refine ⟨by simp; omega, fun j hj => ?_⟩
      simp only [World.cell?, hb, Option.isSome_none, Bool.false_eq_true, if_false]
      rw [Array.getElem?_extract]
      simp; omega
    · simp at h
  · simp at h

/-- Cells that lie there, one by one, are a range. -/
theorem rng_of_cells {w : World} {b off : Nat} {cs : List Value} (hp : 0 < cs.length) (h : ∀ j (hj : j < cs.length), w.cell? ⟨b, off + j, none⟩ = some cs[j]) : rng w b off cs.length = some cs.toArray := by
  have h0 := h 0 hp
  unfold World.cell? at h0
  split at h0
  · rename_i c t fr hb
    have hall : ∀ j (hj : j < cs.length), c[off + j]? = some cs[j] := fun j hj => by
      have := h j hj
      simpa [World.cell?, hb] using this
    have hle : off + cs.length ≤ c.size := by
      have := hall (cs.length - 1) (by omega)
      have := (Array.getElem?_eq_some_iff.1 this).1
      omega
    unfold rng
    rw [hb]
    simp only [hle, if_true, Option.some.injEq]
    apply Array.ext
    · simp; omega
    · intro i h1 h2
      have := hall i (by simpa using h2)
      simp at h1
      rw [Array.getElem_extract]
      obtain ⟨h3, h4⟩ := Array.getElem?_eq_some_iff.1 this
      simpa using h4
  · simp at h0

theorem rng_alloc_lt (w : World) (o : Obj) (b off n : Nat) (h : b < w.heap.size) : rng (w.alloc o) b off n = rng w b off n :=
  rng_of_block (Below.heap_alloc w o b h) off n

theorem rng_alloc_at (w : World) (c : Array Value) (t : TypeId) (fr : Nat × Nat) (b off n : Nat) (h : b = w.heap.size) : rng (w.alloc (.cells c t fr)) b off n = if off + n ≤ c.size then some (c.extract off (off + n)) else none := by
  subst h
  unfold rng
  rw [heap_alloc_new]

theorem rng_drew (w : World) (b off n : Nat) : rng w.drew b off n = rng w b off n := rfl
theorem rng_drewN (w : World) (k b off n : Nat) : rng (w.drewN k) b off n = rng w b off n := rfl

theorem rng_setCell_other (w : World) (a : Addr) (v : Value) (b off n : Nat) (h : b ≠ a.block) : rng (w.setCell a v) b off n = rng w b off n :=
  rng_of_block (Below.heap_setCell w a v b h) off n

theorem rng_setRow_other (w : World) (g : Nat) (cs : Array Value) (b off n : Nat) (h : b ≠ g) : rng (w.setRow g cs) b off n = rng w b off n :=
  rng_of_block (setRow_other w g b cs h) off n

/-- Block b is a row of n cells that may be written. -/
def whole (w : World) (b n : Nat) : Bool :=
  match w.heap[b]? with
  | some (.cells c _ (0, 0)) => c.size == n
  | _ => false

theorem whole_of_block {w w' : World} {b : Nat} (h : w'.heap[b]? = w.heap[b]?) (n : Nat) : whole w' b n = whole w b n := by
  unfold whole; rw [h]
theorem whole_alloc_lt (w : World) (o : Obj) (b n : Nat) (h : b < w.heap.size) : whole (w.alloc o) b n = whole w b n := whole_of_block (Below.heap_alloc w o b h) n
theorem whole_alloc_at (w : World) (c : Array Value) (t : TypeId) (b n : Nat) (h : b = w.heap.size) : whole (w.alloc (.cells c t)) b n = (c.size == n) := by
  subst h
  unfold whole; rw [heap_alloc_new]; rfl
theorem whole_drew (w : World) (b n : Nat) : whole w.drew b n = whole w b n := rfl
theorem whole_setCell_other (w : World) (a : Addr) (v : Value) (b n : Nat) (h : b ≠ a.block) : whole (w.setCell a v) b n = whole w b n := whole_of_block (Below.heap_setCell w a v b h) n
theorem whole_setRow_other (w : World) (g : Nat) (cs : Array Value) (b n : Nat) (h : b ≠ g) : whole (w.setRow g cs) b n = whole w b n := whole_of_block (setRow_other w g b cs h) n

theorem setRow_alloc_at (w : World) (old cs : Array Value) (t : TypeId) (fr : Nat × Nat) (g : Nat) (h : g = w.heap.size) : (w.alloc (.cells old t fr)).setRow g cs = w.alloc (.cells cs t fr) := by
  subst h
  unfold World.setRow
  show ({ w with heap := (w.heap.push _).modify _ _ } : World) = { w with heap := w.heap.push _ }
  congr 1
  apply Array.ext
  · simp
  · intro i h1 h2
    simp only [Array.getElem_modify, Array.getElem_push]
    by_cases h : i = w.heap.size
    · subst h; simp
    · simp at h2
      have : i < w.heap.size := by omega
      simp [this, Ne.symm h]

theorem setRow_alloc_lt (w : World) (o : Obj) (g : Nat) (cs : Array Value) (h : g < w.heap.size) : (w.alloc o).setRow g cs = (w.setRow g cs).alloc o := by
  unfold World.setRow
  show ({ w with heap := (w.heap.push o).modify _ _ } : World) = { w with heap := (w.heap.modify _ _).push o }
  congr 1
  apply Array.ext
  · simp
  · intro i h1 h2
    simp only [Array.getElem_modify, Array.getElem_push, Array.size_modify]
    by_cases hi : i < w.heap.size
    · simp [hi]
    · have : g ≠ i := by omega
      simp [hi, this]

theorem setRow_drew (w : World) (g : Nat) (cs : Array Value) : w.drew.setRow g cs = (w.setRow g cs).drew := rfl

/-- Each of the n cells can be stored. -/
def ones (cs : Array Value) (n : Nat) : Bool := cs.size == n && cs.toList.all Value.oneCell'

/-- A struct's load, its store: named, so that the walk does not lay them open. -/
def ldS (t : TypeId) (v : Value) : Sem Value := Instr.loadAt t v
/-- A slice literal of one element. -/
def bsS (t : TypeId) (v : Value) : Sem Value := Instr.buildSlice t 1 #[(0, v)]
def stS (t : TypeId) (v x : Value) : Sem Unit := Instr.storeAt t v x

/-- A struct literal of two parts. -/
def bdS (t : TypeId) (u v : Value) : Sem Value := Instr.build t #[(0, u), (1, v)]

/-- A comparison of structs: named. -/
def cmpS (op : BinOp) (t : TypeId) (x y : Operand) (u v : Value) : Sem Value := do eqGuard op t x y u v; binOp op t u v

theorem ite_ite_and {α : Type} (p q : Prop) [Decidable p] [Decidable q] (x y : α) : (if p then (if q then x else y) else y) = if p ∧ q then x else y := by
  by_cases hp : p <;> by_cases hq : q <;> simp [hp, hq]

theorem run_isAgg {P : Program} {t : TypeId} {fs : Array Field} (ht : P.underlying t = some (.struct fs)) (w : World) : (isAgg t).run P w = .ok true w := by
  unfold isAgg; rw [Sem.run_bind, run_underlying ht w]; rfl

theorem run_ldS {P : Program} {t : TypeId} {fs : Array Field} {n : Nat} (ht : P.underlying t = some (.struct fs)) (hs : ∀ w, (sizeOf t).run P w = .ok n w) (w : World) (b off : Nat) :
    (ldS t (.pointer (some ⟨b, off, none⟩))).run P w = match rng w b off n with | some cs => .ok (.agg cs) w | none => (Instr.loadAt t (.pointer (some ⟨b, off, none⟩))).run P w := by
  cases h : rng w b off n with
  | none => rfl
  | some cs =>
    obtain ⟨hsz, hc⟩ := rng_cell h
    have hl : (loadCells ⟨b, off, none⟩ cs.toList.length).run P w = .ok cs.toList.toArray w :=
      run_loadCells_list (P := P) w ⟨b, off, none⟩ cs.toList (fun j v hv => by
        rw [Addr.add_lit]
        have hj : j < n := by
          have := (List.getElem?_eq_some_iff.1 hv).1
          simp at this; omega
        rw [hc j hj]
        simpa using hv)
    simp only [Array.length_toList, Array.toArray_toList, hsz] at hl
    simp [ldS, Instr.loadAt, Instr.sureAddr, loadVar, Sem.run_bind, run_isAgg ht, hs, hl]

theorem store_cells_row {P : Program} (w : World) (g : Nat) (t : TypeId) : ∀ (vs : List Value) (i : Nat) (pre : List Value) (post : List Value), (∀ v ∈ vs, v.oneCell' = true) → pre.length = i → post.length = vs.length →
    w.heap[g]? = some (.cells (pre ++ post).toArray t (0, 0)) → (storeCells ⟨g, 0, none⟩ vs i).run P w = .ok () (w.setRow g (pre ++ vs).toArray) := by
  intro vs
  induction vs generalizing w with
  | nil =>
    intro i pre post _ hi hp hw
    have : post = [] := by simpa using hp
    subst this
    simp only [storeCells, List.append_nil] at hw ⊢
    rw [setRow_self w g _ t _ hw]
    rfl
  | cons v rest ih =>
    intro i pre post hone hi hp hw
    cases post with
    | nil => simp at hp
    | cons q post =>
      unfold storeCells
      rw [Sem.run_bind]
      have hcell : w.cell? ⟨g, i, none⟩ = some q := by
        simp only [World.cell?, hw, Option.isSome_none, Bool.false_eq_true, if_false]
        subst hi
        simp
      have hfz : w.frozen? ⟨g, i, none⟩ = false := frozen_of_row w g i _ t hw
      have hst : (store (Addr.add ⟨g, 0, none⟩ i) v).run P w = .ok () (w.setCell ⟨g, i, none⟩ v) := by
        rw [Addr.add_lit, Nat.zero_add, run_store P w _ v .plain (hone v (by simp))]
        simp [hcell, hfz]
      rw [hst]
      simp only [Result.andThen_ok]
      have hw2 := heap_setCell_same w g i _ t v hw
      have e : ((pre ++ q :: post).toArray.setIfInBounds i v) = ((pre ++ [v]) ++ post).toArray := by
        subst hi
        simp
      rw [e] at hw2
      rw [ih (w.setCell ⟨g, i, none⟩ v) (i + 1) (pre ++ [v]) post (fun x hx => hone x (by simp [hx])) (by simp [hi]) (by simpa using hp) hw2]
      rw [setCell_eq_setRow w g i _ t _ v hw, setRow_setRow]
      simp

theorem run_stS {P : Program} {t : TypeId} {n : Nat} (hs : ∀ w, (sizeOf t).run P w = .ok n w) (w : World) (b : Nat) (cs : Array Value) :
    (stS t (.pointer (some ⟨b, 0, none⟩)) (.agg cs)).run P w = if whole w b n = true ∧ ones cs n = true then .ok () (w.setRow b cs) else (Instr.storeAt t (.pointer (some ⟨b, 0, none⟩)) (.agg cs)).run P w := by
  split
  · rename_i h
    obtain ⟨h1, h2⟩ := h
    unfold whole at h1
    split at h1
    · rename_i c ty hb
      simp only [beq_iff_eq] at h1
      simp only [ones, Bool.and_eq_true, beq_iff_eq] at h2
      have := store_cells_row (P := P) w b ty cs.toList 0 [] c.toList (fun v hv => List.all_eq_true.1 h2.2 v hv) rfl (by simp only [Array.length_toList]; omega) (by simpa using hb)
      simp only [List.nil_append, Array.toArray_toList] at this
      have h3 : cs.size = n := h2.1
      subst h3
      simp [stS, Instr.storeAt, Instr.sureAddr, storeVar, Sem.run_bind, hs, Value.cells, this]
    · simp at h1
  · rfl

/-- A slice of structs, each read as a whole: element i holds the cells f xs[i]. -/
def RArr {α : Type} (w : World) (ok : Nat → Prop) (size : Nat) (f : α → Array Value) (v : Value) (xs : List α) : Prop :=
  ∃ (a : Option Addr) (cap b off : Nat), v = .slice a xs.length cap ∧ xs.length ≤ cap ∧ (cap ≤ maxLen ∧ (a = none → cap = 0)) ∧ xs.length ≤ 140737488355328 ∧ (0 < xs.length → a = some ⟨b, off, none⟩ ∧ ok b) ∧
    ∀ i (h : i < xs.length), rng w b (off + i * size) size = some (f xs[i])

theorem RArr.mono {α : Type} {w w' : World} {ok ok' : Nat → Prop} {size : Nat} {f : α → Array Value} {v : Value} {xs : List α} (h : RArr w ok size f v xs)
    (hs : Same ok w w') (hok : ∀ b, ok b → ok' b) : RArr w' ok' size f v xs := by
  obtain ⟨a, cap, b, off, hv, hl, hm, hr, ha, hc⟩ := h
  refine ⟨a, cap, b, off, hv, hl, hm, hr, fun hp => ⟨(ha hp).1, hok _ (ha hp).2⟩, fun i hi => ?_⟩
  rw [rng_of_block (hs b (ha (by omega)).2)]
  exact hc i hi

theorem rng_lt {w : World} {b off n : Nat} {cs : Array Value} (h : rng w b off n = some cs) : b < w.heap.size := by
  apply Classical.byContradiction
  intro hn
  have : w.heap[b]? = none := by simp; omega
  simp [rng, this] at h

theorem RArr.lt {α : Type} {w : World} {ok : Nat → Prop} {size : Nat} {f : α → Array Value} {v : Value} {xs : List α} (h : RArr w ok size f v xs) : RArr w (fun b => ok b ∧ b < w.heap.size) size f v xs := by
  obtain ⟨a, cap, b, off, hv, hl, hm, hr, ha, hc⟩ := h
  exact ⟨a, cap, b, off, hv, hl, hm, hr, fun hp => ⟨(ha hp).1, (ha hp).2, rng_lt (hc 0 hp)⟩, hc⟩

/-- It stands in every world that has only grown. -/
theorem RArr.below {α : Type} {w w' : World} {ok : Nat → Prop} {size : Nat} {f : α → Array Value} {v : Value} {xs : List α} (h : RArr w ok size f v xs) (hb : Below w.heap.size w w') : RArr w' ok size f v xs :=
  h.lt.mono (fun b hb' => hb.block b hb'.2) (fun _ hb' => hb'.1)

theorem RArr.nil {α : Type} (w : World) (ok : Nat → Prop) (size : Nat) (f : α → Array Value) : RArr w ok size f (.slice none 0 0) [] :=
  ⟨none, 0, 0, 0, rfl, Nat.le_refl _, ⟨Nat.zero_le _, fun _ => rfl⟩, by simp, fun h => absurd h (by simp), fun i hi => absurd hi (by simp)⟩

theorem RArr.of_arr {α : Type} {w : World} {ok : Nat → Prop} {size : Nat} {E : List Value → α → Prop} {f : α → Array Value} {v : Value} {xs : List α} (h : Arr w ok size E v xs) (hp : 0 < size)
    (hE : ∀ cs x, x ∈ xs → E cs x → cs = (f x).toList) : RArr w ok size f v xs := by
  obtain ⟨a, cap, b, off, hv, hl, hm, hr, ha, hc⟩ := h
  refine ⟨a, cap, b, off, hv, hl, hm, hr, ha, fun i hi => ?_⟩
  obtain ⟨cs, h1, h2, h3⟩ := hc i hi
  have h4 := rng_of_cells (w := w) (b := b) (off := off + i * size) (cs := cs) (by omega) h3
  rw [h1] at h4
  rw [h4, hE cs _ (List.getElem_mem hi) h2]

/-- The cells of a list of structs, one behind the other. -/
def flat {α : Type} (f : α → Array Value) : List α → List Value
  | [] => []
  | x :: r => (f x).toList ++ flat f r

theorem flat_append {α : Type} (f : α → Array Value) (l m : List α) : flat f (l ++ m) = flat f l ++ flat f m := by
  induction l with
  | nil => rfl
  | cons x r ih => simp [flat, ih]

theorem flat_length {α : Type} {f : α → Array Value} {size : Nat} (hf : ∀ x, (f x).size = size) (l : List α) : (flat f l).length = l.length * size := by
  induction l with
  | nil => simp [flat]
  | cons x r ih => simp [flat, ih, hf, Nat.add_mul]; omega

theorem flat_at {α : Type} {f : α → Array Value} {size : Nat} (hf : ∀ x, (f x).size = size) (l : List α) (i j : Nat) (hi : i < l.length) (hj : j < size) : (flat f l)[i * size + j]? = (f l[i])[j]? := by
  induction l generalizing i with
  | nil => simp at hi
  | cons x r ih =>
    cases i with
    | zero =>
      simp only [flat, Nat.zero_mul, Nat.zero_add, List.getElem_cons_zero]
      rw [List.getElem?_append_left (by simp [hf]; exact hj)]
      simp
    | succ i =>
      simp only [flat, List.getElem_cons_succ]
      rw [List.getElem?_append_right (by simp [hf, Nat.add_mul]; omega)]
      have : (i + 1) * size + j - (f x).toList.length = i * size + j := by simp [hf, Nat.add_mul]; omega
      rw [this]
      exact ih i (by simpa using hi)

/-- What the call has gathered by append, as a slice of structs. -/
theorem RArr.of_owns {α : Type} {w : World} {base : Nat} {e : TypeId} {size : Nat} {f : α → Array Value} {v : Value} {xs : List α} (hf : ∀ x, (f x).size = size) (hp : 0 < size)
    (h : w.ownsRow base e size v xs.length (flat f xs)) (hl : xs.length ≤ 140737488355328) : RArr w (base ≤ ·) size f v xs := by
  obtain ⟨h1, h2⟩ := h
  rcases h2 with ⟨rfl, h0⟩ | ⟨g, cap, cur, rfl, hg, hh, r⟩
  · have hx : xs = [] := by
      have hz := flat_length hf xs
      cases xs with
      | nil => rfl
      | cons x r => simp_all
    subst hx
    exact RArr.nil _ _ _ _
  · obtain ⟨r1, r2, r3, r4⟩ := r
    refine ⟨_, cap, g, 0, rfl, r1, ⟨r2, fun h => by simp at h⟩, hl, fun _ => ⟨rfl, hg⟩, fun i hi => ?_⟩
    have hle : (i + 1) * size ≤ cap * size := Nat.mul_le_mul_right _ (by omega)
    have hle2 : (i + 1) * size ≤ xs.length * size := Nat.mul_le_mul_right _ (by omega)
    rw [Nat.add_mul, Nat.one_mul] at hle hle2
    unfold rng
    rw [hh]
    simp only [Nat.zero_add]
    rw [if_pos (by omega)]
    congr 1
    apply Array.ext
    · simp [hf]; omega
    · intro j h3 h4
      have hj : j < size := by rw [hf] at h4; exact h4
      have h5 := flat_at hf xs i j hi hj
      rw [← r4, List.getElem?_take_of_lt (by omega)] at h5
      have h6 : i * size + j < cur.size := by omega
      simp only [Array.getElem?_toList, Array.getElem?_eq_getElem h6, Array.getElem?_eq_getElem h4, Option.some.injEq] at h5
      rw [Array.getElem_extract]
      exact h5

end Go.Proofs.Qxb6500666aGreatDoor
