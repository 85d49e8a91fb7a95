/- append onto a slice without room. -/
import Derived.Test.Qxb6500665aDoorSortLaw
import Derived.Deep.Upon
namespace Go.Proofs.Qxb6500665aDoor
open Go.RowKit

/-- The structs xs lie behind the address ao. -/
def LiesR {α : Type} (w : World) (size : Nat) (f : α → Array Value) (ao : Option Addr) (xs : List α) : Prop :=
  0 < xs.length → ∃ b off, ao = some ⟨b, off, none⟩ ∧ ∀ i (h : i < xs.length), rng w b (off + i * size) size = some (f xs[i])

theorem lies_cells {α : Type} {w : World} {size : Nat} {f : α → Array Value} {ao : Option Addr} {xs : List α} (hf : ∀ x, (f x).size = size) (hsz : 0 < size) (h : LiesR w size f ao xs) (h0 : 0 < xs.length) :
    ∃ b off, ao = some ⟨b, off, none⟩ ∧ ∀ j u, (flat f xs)[j]? = some u → w.cell? ((⟨b, off, none⟩ : Addr).add j) = some u := by
  obtain ⟨b, off, ha, hr⟩ := h h0
  refine ⟨b, off, ha, fun j u hu => ?_⟩
  have hj := (List.getElem?_eq_some_iff.1 hu).1
  rw [flat_length hf] at hj
  rw [Addr.add_lit]
  have hq : j / size < xs.length := Nat.div_lt_of_lt_mul (by rw [Nat.mul_comm]; exact hj)
  have hrm : j % size < size := Nat.mod_lt _ hsz
  have he : j / size * size + j % size = j := by rw [Nat.mul_comm]; exact Nat.div_add_mod j size
  have h2 := (rng_cell (hr (j / size) hq)).2 (j % size) hrm
  rw [Nat.add_assoc, he] at h2
  rw [h2]
  have h3 := flat_at hf xs (j / size) (j % size) hq hrm
  rw [he] at h3
  rw [← h3]
  exact hu

theorem flat_one {α : Type} {f : α → Array Value} (h1 : ∀ x, ∀ u ∈ (f x).toList, u.oneCell' = true) : ∀ (l : List α), ∀ u ∈ flat f l, u.oneCell' = true
  | [], u, h => by simp [flat] at h
  | y :: r, u, h => by
    simp only [flat, List.mem_append] at h
    rcases h with h | h
    · exact h1 y u h
    · exact flat_one h1 r u h

theorem run_append_full {P : Program} {α : Type} (w : World) (ok : Nat → Prop) (t ty e : TypeId) {z : Value} {size bytes : Nat} (f : α → Array Value) (ht : P.underlying t = some (.slice e)) (hinfo : (P.info? e).map (fun i => (i.zero, i.size, i.bytes)) = some (some z, size, bytes))
    (_hzs : z.cells.size = size) (hsz : 0 < size) (hf : ∀ x, (f x).size = size) (h1 : ∀ x, ∀ u ∈ (f x).toList, u.oneCell' = true)
    (ao : Option Addr) (n : Nat) (xs : List α) (hn : n = xs.length) (hx : LiesR w size f ao xs) (hok : ∀ b off, ao = some ⟨b, off, none⟩ → ok b) (hao : ao = none → n = 0)
    (bo : Option Addr) (m c : Nat) (ys : List α) (hm : m = ys.length) (hbn : bo = none → m = 0) (hy : LiesR w size f bo ys) (hlen : n + m ≤ maxLen) (hbytes : (n + m) * bytes ≤ 140737488355328) (hreach : n + m ≤ 140737488355328) :
    ∃ a' c' w', (Builtin.append_ #[t, t] ty #[.slice ao n n, .slice bo m c]).run P w = .ok (.slice a' (n + m) c') w' ∧ RArr w' (fun b => ok b ∨ w.heap.size ≤ b) size f (.slice a' (n + m) c') (xs ++ ys) ∧ Below w.heap.size w w' := by
  obtain ⟨i, hi, hz0, hz1, hz2⟩ := info_parts hinfo
  have hsrc : Src P i.size t (.slice bo m c) m (flat f ys) w := by
    rw [hz1]
    cases ys with
    | nil =>
      simp only [List.length_nil] at hm
      subst hm
      cases bo with
      | none => exact Src.ofNil w ht c
      | some ad => exact Src.ofSlice w ht ad 0 c [] (by simp) (fun j u hu => by simp at hu) (fun _ h => by cases h)
    | cons y r =>
      obtain ⟨b, off, hb, hc⟩ := lies_cells hf hsz hy (by simp)
      subst hb
      exact Src.ofSlice w ht _ m c _ (by rw [flat_length hf, hm]) hc (flat_one h1 _)
  cases ys with
  | nil =>
    simp only [List.length_nil] at hm
    subst hm
    have hr := run_append_nothing (P := P) w t t ty e i ht hi ao n n (Nat.le_refl _) (.slice bo 0 c) (by simpa [flat] using hsrc)
    refine ⟨ao, n, w, hr, ?_, Below.refl _ _⟩
    rw [List.append_nil]
    subst hn
    cases hxs : xs with
    | nil =>
      subst hxs
      exact ⟨ao, 0, 0, 0, rfl, Nat.le_refl _, ⟨Nat.zero_le _, fun _ => rfl⟩, by simp, fun h => absurd h (by simp), fun i hi => absurd hi (by simp)⟩
    | cons x r =>
      rw [← hxs]
      have h0 : 0 < xs.length := by rw [hxs]; simp
      obtain ⟨b, off, hb, hc⟩ := hx h0
      exact ⟨ao, xs.length, b, off, rfl, Nat.le_refl _, ⟨by omega, fun h => by rw [hb] at h; cases h⟩, by omega, fun _ => ⟨hb, Or.inl (hok b off hb)⟩, hc⟩
  | cons y r =>
    have hold : (Builtin.firstCells i.size n (.slice ao n n)).run P w.drew = .ok (flat f xs).toArray w.drew := by
      rw [hz1]
      cases xs with
      | nil =>
        simp only [List.length_nil] at hn
        subst hn
        cases ao with
        | none => exact run_firstCells_none w.drew size 0 0 0
        | some ad => exact run_firstCells_some w.drew size 0 ad 0 0 [] (by simp) (fun j u hu => by simp at hu)
      | cons x l =>
        obtain ⟨b, off, hb, hc⟩ := lies_cells hf hsz hx (by simp)
        subst hb
        exact run_firstCells_some w.drew size n _ n n _ (by rw [flat_length hf, hn]) hc
    have hm0 : 0 < m := by rw [hm]; simp
    have hr := run_append_grow_src (P := P) w t t ty e i z ht hi hz0 ao n n (flat f xs) hold (.slice bo m c) m (flat f (y :: r)) hsrc (by omega) (by unfold maxLen at hlen; omega) (growslice_fits (by omega) (by rw [hz2]; exact hbytes))
    refine ⟨_, _, _, hr, ?_, (Below.refl _ _).drew.alloc (Nat.le_refl _) _⟩
    have hge := grownCap_ge w (n + m) n e
    have hcm := grownCap_le_maxLen w (n + m) n e hlen
    have hL : (xs ++ y :: r).length = n + m := by rw [List.length_append, hn, hm]
    have hfl : (flat f xs ++ flat f (y :: r)) = flat f (xs ++ y :: r) := (flat_append f xs (y :: r)).symm
    refine ⟨some ⟨w.heap.size, 0, none⟩, _, w.heap.size, 0, by rw [hL], by rw [hL]; exact hge, ⟨hcm, fun h => by cases h⟩, by rw [hL]; exact hreach, fun _ => ⟨rfl, Or.inr (Nat.le_refl _)⟩, fun j hj => ?_⟩
    have hnew : rng (w.drew.alloc (.cells ((flat f xs ++ flat f (y :: r)).toArray ++ Builtin.zeroCells z.cells (grownCap w (n + m) n e - (n + m))) e)) w.heap.size (0 + j * size) size = _ := rng_alloc_at w.drew _ e (0, 0) w.heap.size (0 + j * size) size rfl
    rw [hnew]
    have hfsz : (flat f (xs ++ y :: r)).length = (n + m) * size := by rw [flat_length hf, hL]
    have hle : (j + 1) * size ≤ (n + m) * size := Nat.mul_le_mul_right _ (by omega)
    rw [Nat.add_mul, Nat.one_mul] at hle
    rw [if_pos (by rw [Array.size_append, List.size_toArray, hfl, hfsz]; omega), hfl]
    congr 1
    apply Array.ext
    · simp only [Array.size_extract, Array.size_append, List.size_toArray, hfsz, hf]; omega
    · intro k hk1 hk2
      have hk : k < size := by rw [hf] at hk2; exact hk2
      rw [Array.getElem_extract]
      have h5 := flat_at hf (xs ++ y :: r) j k hj hk
      have h6 : j * size + k < (flat f (xs ++ y :: r)).length := by omega
      rw [List.getElem?_eq_getElem h6, Array.getElem?_eq_getElem hk2, Option.some.injEq] at h5
      rw [Array.getElem_append_left (by simp only [List.size_toArray]; omega)]
      simp only [List.getElem_toArray, Nat.zero_add]
      exact h5

/-- At the operation. -/
theorem wpList_appFull {P : Program} {α : Type} {ops : Array Oper} {rest : List Oper} {o : Oper} {a : Act} {w : World} {Q : Exit → Act → World → Prop} (ok : Nat → Prop) (hgd : o.guard = none) (s x : Operand) (t : TypeId)
    (ho : o.op = .call { callee := .builtin .append, args := #[s, x], argTypes := #[t, t] })
    (e : TypeId) {z : Value} {size bytes : Nat} (f : α → Array Value) (ht : P.underlying t = some (.slice e)) (hinfo : (P.info? e).map (fun i => (i.zero, i.size, i.bytes)) = some (some z, size, bytes))
    (hzs : z.cells.size = size) (hsz : 0 < size) (hf : ∀ x, (f x).size = size) (h1 : ∀ x, ∀ u ∈ (f x).toList, u.oneCell' = true)
    (ao : Option Addr) (n : Nat) (xs : List α) (hs : a.eval s = .slice ao n n) (hn : n = xs.length) (hx : LiesR w size f ao xs) (hok : ∀ b off, ao = some ⟨b, off, none⟩ → ok b) (hao : ao = none → n = 0)
    (bo : Option Addr) (m c : Nat) (ys : List α) (hxv : a.eval x = .slice bo m c) (hm : m = ys.length) (hbn : bo = none → m = 0) (hy : LiesR w size f bo ys) (hlen : n + m ≤ maxLen) (hbytes : (n + m) * bytes ≤ 140737488355328) (hreach : n + m ≤ 140737488355328)
    (h : ∀ a' c' w', RArr w' (fun b => ok b ∨ w.heap.size ≤ b) size f (.slice a' (n + m) c') (xs ++ ys) → Below w.heap.size w w' → wpList P ops Q rest (a.put o.dst (.slice a' (n + m) c')) w') :
    wpList P ops Q (o :: rest) a w := by
  refine wpList_plain hgd fun K hK => ?_
  obtain ⟨a', c', w', hr, h2, h3⟩ := run_append_full (P := P) w ok t o.type e f ht hinfo hzs hsz hf h1 ao n xs hn hx hok hao bo m c ys hm hbn hy hlen hbytes hreach
  unfold Oper.wp execOp
  simp only [ho, resolve, invoke, builtin, Sem.run_bind, Sem.run_pure, Result.andThen_ok, List.map_toArray, List.map_cons, List.map_nil, hs, hxv, hr]
  exact hK _ _ (h a' c' w' h2 h3)

/-- s[:hi:hi] of a slice. -/
theorem run_slCap {P : Program} {t e : TypeId} {size : Nat} (ht : P.underlying t = some (.slice e)) (hs : ∀ w, (sizeOf e).run P w = .ok size w) {a : Option Addr} {n cap : Nat} (hcap : n ≤ cap) (i : Nat) (hi : i ≤ n) :
    ∃ ao : Option Addr, (∀ w, (Instr.sliceAt t (.slice a n cap) none (some (.int .i64 (i : Int))) (some (.int .i64 (i : Int)))).run P w = .ok (.slice ao i i) w) ∧ (∀ b off, a = some ⟨b, off, none⟩ → ao = some ⟨b, off, none⟩) ∧ (ao = none → a = none) := by
  refine ⟨if i = 0 then a else a.map (·.add 0), fun w => ?_, fun b off h => ?_, fun h => ?_⟩
  · simp [Instr.sliceAt, Instr.slice, run_underlying ht, hs, Instr.sliceBounds, Instr.sliceBound, asIntOf]
    omega
  · subst h
    split
    · rfl
    · simp [Addr.add_lit]
  · split at h
    · exact h
    · simpa using h

end Go.Proofs.Qxb6500665aDoor
