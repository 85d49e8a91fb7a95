/- append, of one struct, onto a slice that the call itself has made. -/
import Derived.Test.Qxb6500666aGreatDoorExt
import Derived.Laws.AppendOwnNone
import Derived.Maps.AppendAt
namespace Go.Proofs.Qxb6500666aGreatDoor
open Go.RowKit

/-- The slice value v owns the structs xs (blocks from base on). -/
def OwnR {α : Type} (w : World) (base : Nat) (e : TypeId) (size : Nat) (f : α → Array Value) (v : Value) (xs : List α) : Prop :=
  w.ownsRow base e size v xs.length (flat f xs)

theorem OwnR.nil {α : Type} (w : World) (base : Nat) (e : TypeId) (size : Nat) (f : α → Array Value) : OwnR w base e size f (.slice none 0 0) [] :=
  World.ownsRow_nil _ _ _ _

theorem OwnR.form {α : Type} {w : World} {base : Nat} {e : TypeId} {size : Nat} {f : α → Array Value} {v : Value} {xs : List α} (h : OwnR w base e size f v xs) : ∃ a cap, v = .slice a xs.length cap := by
  rcases h.2 with ⟨h2, h3⟩ | ⟨g, cap, cur, h2, _⟩
  · exact ⟨none, 0, by rw [h2, h3]⟩
  · exact ⟨_, cap, h2⟩

theorem OwnR.block {α : Type} {w : World} {base : Nat} {e : TypeId} {size : Nat} {f : α → Array Value} {v : Value} {xs : List α} (h : OwnR w base e size f v xs) : ∀ b, v.ownBlock = some b → base ≤ b ∧ b < w.heap.size := by
  intro b hb
  rcases h.2 with ⟨rfl, _⟩ | ⟨g, cap, cur, rfl, hg, hh, _⟩
  · simp [Value.ownBlock] at hb
  · simp only [Value.ownBlock, Option.some.injEq] at hb
    subst hb
    exact ⟨hg, (Array.getElem?_eq_some_iff.1 hh).1⟩

/-- It stands while its own block stands. -/
theorem OwnR.mono {α : Type} {w w' : World} {base : Nat} {e : TypeId} {size : Nat} {f : α → Array Value} {v : Value} {xs : List α} (h : OwnR w base e size f v xs) (hs : ∀ b, v.ownBlock = some b → w'.heap[b]? = w.heap[b]?) : OwnR w' base e size f v xs := by
  obtain ⟨h1, h2⟩ := h
  refine ⟨h1, ?_⟩
  rcases h2 with h2 | ⟨g, cap, cur, rfl, hg, hh, r⟩
  · exact Or.inl h2
  · exact Or.inr ⟨g, cap, cur, rfl, hg, by rw [hs g rfl]; exact hh, r⟩

theorem OwnR.below {α : Type} {w w' : World} {base B : Nat} {e : TypeId} {size : Nat} {f : α → Array Value} {v : Value} {xs : List α} (h : OwnR w base e size f v xs) (hb : Below B w w') (hB : w.heap.size ≤ B) : OwnR w' base e size f v xs :=
  h.mono fun b hb' => hb.block b (Nat.lt_of_lt_of_le (h.block b hb').2 hB)

theorem OwnR.rows {α : Type} {w : World} {base : Nat} {e : TypeId} {size : Nat} {f : α → Array Value} {v : Value} {xs : List α} (h : OwnR w base e size f v xs) (hf : ∀ x, (f x).size = size) (hp : 0 < size) (hl : xs.length ≤ 140737488355328) : RArr w (base ≤ ·) size f v xs :=
  RArr.of_owns hf hp h hl

/-- append(s, y) of one struct y that has just been laid into a block of its own. -/
theorem wpList_app1 {P : Program} {α : Type} {ops : Array Oper} {rest : List Oper} {o : Oper} {a : Act} {w : World} {Q : Exit → Act → World → Prop} (hgd : o.guard = none) (s x : Operand) (t : TypeId)
    (ho : o.op = .call { callee := .builtin .append, args := #[s, x], argTypes := #[t, t] })
    (base : Nat) (e : TypeId) {z : Value} {size bytes : Nat} (f : α → Array Value) (ht : P.underlying t = some (.slice e)) (hinfo : (P.info? e).map (fun i => (i.zero, i.size, i.bytes)) = some (some z, size, bytes))
    (hzs : z.cells.size = size) (hsz : 0 < size) (hf : ∀ x, (f x).size = size) (h1 : ∀ x, ∀ u ∈ (f x).toList, u.oneCell' = true)
    (v : Value) (xs : List α) (hs : a.eval s = v) (hown : OwnR w base e size f v xs)
    (g : Nat) (hx : a.eval x = .slice (some ⟨g, 0, none⟩) 1 1) (y : α) (hg : rng w g 0 size = some (f y))
    (hbytes : (xs.length + 1) * bytes ≤ 140737488355328) (hlen : xs.length + 1 ≤ maxLen) (hbase : base ≤ w.heap.size)
    (h : ∀ v' w', OwnR w' base e size f v' (xs ++ [y]) → Same (fun b => b < w.heap.size ∧ v.ownBlock ≠ some b) w w' → Below base w w' → (v'.ownBlock = v.ownBlock ∨ v'.ownBlock = some w.heap.size) → wpList P ops Q rest (a.put o.dst v') w') : wpList P ops Q (o :: rest) a w := by
  obtain ⟨i, hi, hz0, hz1, hz2⟩ := info_parts hinfo
  have hc := (rng_cell hg).2
  refine wpList_append_own_at w hgd s x t ho base e i z size bytes ht hi hz0 hz1 hz2 hzs hsz v xs.length (flat f xs) hs hown ⟨g, 0, none⟩ 1 1 (f y).toList hx (by simp [hf]) (fun j u hu => ?_) (h1 y) hlen hbytes hbase ?_
  · rw [Addr.add_lit]
    have hj : j < size := by
      have := (List.getElem?_eq_some_iff.1 hu).1
      simp [hf] at this
      exact this
    rw [hc j hj]
    simpa using hu
  · intro v' w' ho' hgr _ hat
    refine h v' w' ?_ (fun b hb => hgr.block b hb.1 (fun e => hb.2 e.symm)) ?_ hat
    · unfold OwnR
      rw [flat_append]
      simpa [flat] using ho'
    · exact (Below.refl _ _).grown hgr hbase (fun k hk => (hown.block k hk).1)

/-- The same at a step of a region that draws its order. -/
theorem step_app1 {P : Program} {α : Type} {ops : Array Oper} {o : Oper} {a : Act} {w : World} {K : Act → World → Prop} {Q : Exit → Act → World → Prop} {E : Prop} (hgd : o.guard = none) (s x : Operand) (t : TypeId)
    (ho : o.op = .call { callee := .builtin .append, args := #[s, x], argTypes := #[t, t] })
    (base : Nat) (e : TypeId) {z : Value} {size bytes : Nat} (f : α → Array Value) (ht : P.underlying t = some (.slice e)) (hinfo : (P.info? e).map (fun i => (i.zero, i.size, i.bytes)) = some (some z, size, bytes))
    (hzs : z.cells.size = size) (hsz : 0 < size) (hf : ∀ x, (f x).size = size) (h1 : ∀ x, ∀ u ∈ (f x).toList, u.oneCell' = true)
    (v : Value) (xs : List α) (hs : a.eval s = v) (hown : OwnR w base e size f v xs)
    (g : Nat) (hx : a.eval x = .slice (some ⟨g, 0, none⟩) 1 1) (y : α) (hg : rng w g 0 size = some (f y))
    (hbytes : (xs.length + 1) * bytes ≤ 140737488355328) (hlen : xs.length + 1 ≤ maxLen) (hbase : base ≤ w.heap.size)
    (h : ∀ a' cap' w', OwnR w' base e size f (.slice a' (xs.length + 1) cap') (xs ++ [y]) → Same (fun b => b < w.heap.size ∧ v.ownBlock ≠ some b) w w' → Below base w w' → K (a.put o.dst (.slice a' (xs.length + 1) cap')) w') :
    if Region.wanted o (yielded ops a.tmps) = true then Oper.wp P o a w K Q else E := by
  have hw : Region.wanted o (yielded ops a.tmps) = true := by simp [Region.wanted, hgd]
  rw [if_pos hw]
  obtain ⟨i, hi, hz0, hz1, hz2⟩ := info_parts hinfo
  have hc := (rng_cell hg).2
  obtain ⟨v', w', hr, h2, h3, h4, h5⟩ := run_append_own_at (P := P) w base t o.type e i z size bytes ht hi hz0 hz1 hz2 hzs hsz v xs.length (flat f xs) hown ⟨g, 0, none⟩ 1 1 (f y).toList (by simp [hf]) (fun j u hu => by
    rw [Addr.add_lit]
    have hj : j < size := by
      have := (List.getElem?_eq_some_iff.1 hu).1
      simp [hf] at this
      exact this
    rw [hc j hj]
    simpa using hu) (h1 y) hlen hbytes hbase
  have hown' : OwnR w' base e size f v' (xs ++ [y]) := by
    unfold OwnR
    rw [flat_append]
    simpa [flat] using h2
  obtain ⟨a', cap', hv'⟩ := hown'.form
  simp only [List.length_append, List.length_cons, List.length_nil] at hv'
  subst hv'
  unfold Oper.wp execOp
  simp only [ho, resolve, invoke, builtin, Sem.run_bind, Sem.run_pure, Result.andThen_ok, List.map_toArray, List.map_cons, List.map_nil, hs, hx, hr]
  exact h a' cap' w' hown' (fun b hb => h3.block b hb.1 (fun e => hb.2 e.symm)) ((Below.refl _ _).grown h3 hbase (fun k hk => (hown.block k hk).1))

/-- s[lo:] and s[:hi] of a slice: named. -/
def slFrom (t : TypeId) (v lo : Value) : Sem Value := Instr.sliceAt t v (some lo) none none
def slTo (t : TypeId) (v hi : Value) : Sem Value := Instr.sliceAt t v none (some hi) none

theorem run_slFrom {P : Program} {t e : TypeId} {size : Nat} (ht : P.underlying t = some (.slice e)) (hs : ∀ w, (sizeOf e).run P w = .ok size w) {a : Option Addr} {b off n cap : Nat}
    (ha : 0 < n → a = some ⟨b, off, none⟩) (hcap : n ≤ cap) (hnil : a = none → cap = 0) (i : Nat) (hi : i ≤ n) :
    ∃ ao : Option Addr, (∀ w, (slFrom t (.slice a n cap) (.int .i64 (i : Int))).run P w = .ok (.slice ao (n - i) (cap - i)) w) ∧ (i < n → ao = some ⟨b, off + i * size, none⟩) ∧ (ao = none → cap - i = 0) := by
  refine ⟨if cap = i then a else a.map (·.add (i * size)), fun w => ?_, fun hlt => ?_, fun hn => ?_⟩
  · simp [slFrom, Instr.sliceAt, Instr.slice, run_underlying ht, hs, Instr.sliceBounds, Instr.sliceBound, asIntOf]
    intro h
    omega
  · rw [if_neg (by omega), ha (by omega)]
    simp [Addr.add_lit]
  · split at hn
    · omega
    · cases a with
      | none => rw [hnil rfl]; simp
      | some a => simp at hn

/-- append(s, t...) onto a slice that the call has made: what is appended lies wherever it lies, or is empty. -/
theorem wpList_appN {P : Program} {α : Type} {ops : Array Oper} {rest : List Oper} {o : Oper} {a : Act} {w : World} {Q : Exit → Act → World → Prop} (hgd : o.guard = none) (s x : Operand) (t : TypeId)
    (ho : o.op = .call { callee := .builtin .append, args := #[s, x], argTypes := #[t, t] })
    (base : Nat) (e : TypeId) {z : Value} {size bytes : Nat} (f : α → Array Value) (ht : P.underlying t = some (.slice e)) (hinfo : (P.info? e).map (fun i => (i.zero, i.size, i.bytes)) = some (some z, size, bytes))
    (hzs : z.cells.size = size) (hsz : 0 < size) (hf : ∀ x, (f x).size = size) (h1 : ∀ x, ∀ u ∈ (f x).toList, u.oneCell' = true)
    (v : Value) (xs : List α) (hs : a.eval s = v) (hown : OwnR w base e size f v xs)
    (ao : Option Addr) (m c : Nat) (hx : a.eval x = .slice ao m c) (ys : List α) (hm : m = ys.length) (hnone : ao = none → c = 0) (hsrc : 0 < m → ∃ b off, ao = some ⟨b, off, none⟩ ∧ ∀ i (h : i < ys.length), rng w b (off + i * size) size = some (f ys[i]))
    (hbytes : (xs.length + m) * bytes ≤ 140737488355328) (hlen : xs.length + m ≤ maxLen) (hbase : base ≤ w.heap.size)
    (h : ∀ v' w', OwnR w' base e size f v' (xs ++ ys) → Same (fun b => b < w.heap.size ∧ v.ownBlock ≠ some b) w w' → Below base w w' → (v'.ownBlock = v.ownBlock ∨ v'.ownBlock = some w.heap.size) → wpList P ops Q rest (a.put o.dst v') w') : wpList P ops Q (o :: rest) a w := by
  obtain ⟨i, hi, hz0, hz1, hz2⟩ := info_parts hinfo
  cases ao with
  | none =>
    have hm0 : m = 0 := by
      cases m with
      | zero => rfl
      | succ k =>
        obtain ⟨b, off, hn, _⟩ := hsrc (by omega)
        simp at hn
    subst hm0
    have hys : ys = [] := by
      cases ys with
      | nil => rfl
      | cons y r => simp at hm
    subst hys
    rw [hnone rfl] at hx
    exact wpList_append_own_none hgd s x t ho base e i size ht hi v xs.length (flat f xs) hs hown hx (h v w (by simpa using hown) (Same.refl _ _) (Below.refl _ _) (Or.inl rfl))
  | some ad =>
    refine wpList_append_own_at w hgd s x t ho base e i z size bytes ht hi hz0 hz1 hz2 hzs hsz v xs.length (flat f xs) hs hown ad m c (flat f ys) hx (by rw [flat_length hf, hm]) (fun j u hu => ?_) (fun u hu => ?_) hlen hbytes hbase ?_
    · have hj := (List.getElem?_eq_some_iff.1 hu).1
      rw [flat_length hf] at hj
      have hpos : 0 < m := by
        cases ys with
        | nil => simp at hj
        | cons y r => simp at hm; omega
      obtain ⟨b, off, had, hr⟩ := hsrc hpos
      simp only [Option.some.injEq] at had
      subst had
      rw [Addr.add_lit]
      have hq : j / size < ys.length := Nat.div_lt_of_lt_mul (by rw [Nat.mul_comm]; exact hj)
      have hrm : j % size < size := Nat.mod_lt _ hsz
      have he : j / size * size + j % size = j := by rw [Nat.mul_comm]; exact Nat.div_add_mod j size
      have h2 := (rng_cell (hr (j / size) hq)).2 (j % size) hrm
      rw [Nat.add_assoc, he] at h2
      rw [h2]
      have h3 := flat_at hf ys (j / size) (j % size) hq hrm
      rw [he] at h3
      rw [← h3]
      exact hu
    · have : ∀ l : List α, u ∈ flat f l → u.oneCell' = true := by
        intro l
        induction l with
        | nil => intro h; simp [flat] at h
        | cons y r ih =>
          intro h
          simp only [flat, List.mem_append] at h
          rcases h with h | h
          · exact h1 y u h
          · exact ih h
      exact this ys hu
    · intro v' w' ho' hgr _ hat
      refine h v' w' ?_ (fun b hb => hgr.block b hb.1 (fun e => hb.2 e.symm)) ?_ hat
      · unfold OwnR
        rw [flat_append, List.length_append, ← hm]
        exact ho'
      · exact (Below.refl _ _).grown hgr hbase (fun k hk => (hown.block k hk).1)

end Go.Proofs.Qxb6500666aGreatDoor
