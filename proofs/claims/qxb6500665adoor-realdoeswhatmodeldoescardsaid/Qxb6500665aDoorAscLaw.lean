/- What ascending gives: plain. A range over a map that collects its keys. -/
import Derived.Test.Qxb6500665aDoorModTests
namespace Go.Proofs.Qxb6500665aDoor
open Go.RowKit Go.Maps

theorem insU_mem (x y : Int) : ∀ out : List Int, y ∈ insU x out ↔ y = x ∨ y ∈ out
  | [] => by simp [insU]
  | z :: r => by
    simp only [insU]
    split
    · simp only [List.mem_cons, insU_mem x y r]
      constructor
      · rintro (h | h | h)
        · exact Or.inr (Or.inl h)
        · exact Or.inl h
        · exact Or.inr (Or.inr h)
      · rintro (h | h | h)
        · exact Or.inr (Or.inl h)
        · exact Or.inl h
        · exact Or.inr (Or.inr h)
    · split
      · rename_i h
        subst h
        simp
      · simp
theorem insU_strict {x : Int} : ∀ {out : List Int}, out.Pairwise (fun a b => a < b) → (insU x out).Pairwise (fun a b => a < b)
  | [], _ => by simp [insU]
  | z :: r, h => by
    rw [List.pairwise_cons] at h
    simp only [insU]
    split
    · rename_i hz
      rw [List.pairwise_cons]
      refine ⟨fun y hy => ?_, insU_strict h.2⟩
      rcases (insU_mem x y r).1 hy with rfl | hy
      · exact hz
      · exact h.1 y hy
    · split
      · rw [List.pairwise_cons]; exact h
      · rename_i h1 h2
        have hxz : x < z := by omega
        rw [List.pairwise_cons]
        refine ⟨fun y hy => ?_, List.pairwise_cons.2 h⟩
        rcases List.mem_cons.1 hy with rfl | hy
        · exact hxz
        · have := h.1 y hy; omega

theorem asc_all (keep : Int → Bool) : ∀ (l out : List Int), out.Pairwise (fun a b => a < b) → (l.foldl (ascS keep) out).Pairwise (fun a b => a < b) ∧ ∀ y, y ∈ l.foldl (ascS keep) out ↔ y ∈ out ∨ (y ∈ l ∧ keep y = true)
  | [], out, h => ⟨h, fun y => by simp⟩
  | x :: r, out, h => by
    have h1 : (ascS keep out x).Pairwise (fun a b => a < b) := by
      unfold ascS
      split
      · exact insU_strict h
      · exact h
    obtain ⟨h2, h3⟩ := asc_all keep r (ascS keep out x) h1
    refine ⟨h2, fun y => ?_⟩
    rw [List.foldl_cons, h3]
    unfold ascS
    split
    · rename_i hk
      rw [insU_mem]
      constructor
      · rintro ((rfl | h) | h)
        · exact Or.inr ⟨List.mem_cons_self .., hk⟩
        · exact Or.inl h
        · exact Or.inr ⟨List.mem_cons_of_mem _ h.1, h.2⟩
      · rintro (h | ⟨h, hk'⟩)
        · exact Or.inl (Or.inr h)
        · rcases List.mem_cons.1 h with rfl | h
          · exact Or.inl (Or.inl rfl)
          · exact Or.inr ⟨h, hk'⟩
    · rename_i hk
      constructor
      · rintro (h | h)
        · exact Or.inl h
        · exact Or.inr ⟨List.mem_cons_of_mem _ h.1, h.2⟩
      · rintro (h | ⟨h, hk'⟩)
        · exact Or.inl h
        · rcases List.mem_cons.1 h with rfl | h
          · exact absurd hk' hk
          · exact Or.inr ⟨h, hk'⟩
theorem ascL_strict (keep : Int → Bool) (l : List Int) : (ascL keep l).Pairwise (fun a b => a < b) := (asc_all keep l [] List.Pairwise.nil).1
theorem ascL_mem (keep : Int → Bool) (l : List Int) (y : Int) : y ∈ ascL keep l ↔ y ∈ l ∧ keep y = true := by
  have := (asc_all keep l [] List.Pairwise.nil).2 y
  simpa [ascL] using this
theorem ascL_len (keep : Int → Bool) (l : List Int) : (ascL keep l).length ≤ l.length := by
  have key : ∀ (l out : List Int), (l.foldl (ascS keep) out).length ≤ out.length + l.length := by
    intro l
    induction l with
    | nil => intro out; simp
    | cons x r ih =>
      intro out
      have h1 := ih (ascS keep out x)
      have h2 := ascS_len keep out x
      simp only [List.foldl_cons, List.length_cons]
      omega
  simpa [ascL] using key l []

theorem ranges_blocks {H : Type} {P : Program} {k : TypeId} {R : Value → Option (DataW H × List MemPlace)} {w w' : World} {b r n : Nat} {D : DataW H} {left : Lit → Bool} {cnt : Nat} (h : w.ranges P k R b r n D left cnt) (h1 : w'.heap[b]? = w.heap[b]?) (h2 : w'.heap[r]? = w.heap[r]?) : w'.ranges P k R b r n D left cnt := by
  obtain ⟨es, clock, since, seen, c0, hb, F, hs, hD, hr, rest⟩ := h
  exact ⟨es, clock, since, seen, c0, h1.trans hb, F, hs, hD, h2.trans hr, rest⟩
theorem ranges_cnt {H : Type} {P : Program} {k : TypeId} {R : Value → Option (DataW H × List MemPlace)} {w : World} {b r n : Nat} {D : DataW H} {left : Lit → Bool} {cnt : Nat} (h : w.ranges P k R b r n D left cnt) : cnt ≤ n := by
  obtain ⟨es, clock, since, seen, c0, hb, F, hs, hD, hr, hq, hc, rest⟩ := h
  rw [← hc]
  have : (leftOf es seen).size ≤ es.size := by unfold leftOf; exact Array.size_filter_le
  omega

theorem ranges_has {H : Type} {P : Program} {k : TypeId} {R : Value → Option (DataW H × List MemPlace)} {w : World} {b r n : Nat} {D : DataW H} {left : Lit → Bool} {cnt : Nat} (h : w.ranges P k R b r n D left cnt) {kl : Lit} (hs : kl.sameKey kl = true) (hl : left kl = true) : Maps.has D kl = true := by
  obtain ⟨es, clock, since, seen, c0, hb, F, hz, hD, hr, hq, hc, h1, h2, -⟩ := h
  obtain ⟨x, hx, rfl⟩ := h2 kl hl
  rw [hD, Maps.has_eq, List.any_eq_true]
  exact ⟨_, mem_sorted.2 (List.mem_map.2 ⟨x, hx, rfl⟩), hs⟩

/-- What has been collected: the keys that are no longer to come. -/
structure Coll (D : DataW Value) (left : Lit → Bool) (acc : List Int) : Prop where
  mem : ∀ x, x ∈ acc ↔ U32 x ∧ Maps.has D (.int .u32 x) = true ∧ left (.int .u32 x) = false

theorem Coll.start (D : DataW Value) : Coll D (Maps.has D) [] := ⟨fun x => by
  constructor
  · intro h; cases h
  · rintro ⟨-, h1, h2⟩; rw [h1] at h2; cases h2⟩
theorem same_u32 (x y : Int) : (Lit.int .u32 y).sameKey (Lit.int .u32 x) = decide (y = x) := by
  by_cases h : y = x
  · subst h; simp [Lit.sameKey]
  · simp [Lit.sameKey, h]
theorem Coll.step {D : DataW Value} {left : Lit → Bool} {acc : List Int} (h : Coll D left acc) {x : Int} (hx : U32 x) (hl : left (.int .u32 x) = true) (hd : Maps.has D (.int .u32 x) = true) : Coll D (fun z => left z && !z.sameKey (.int .u32 x)) (acc ++ [x]) := ⟨fun y => by
  rw [List.mem_append, h.mem, List.mem_singleton]
  show _ ↔ U32 y ∧ Maps.has D (.int .u32 y) = true ∧ (left (.int .u32 y) && !(Lit.int .u32 y).sameKey (.int .u32 x)) = false
  rw [same_u32]
  constructor
  · rintro (⟨h1, h2, h3⟩ | rfl)
    · exact ⟨h1, h2, by rw [h3]; rfl⟩
    · exact ⟨hx, hd, by simp⟩
  · rintro ⟨h1, h2, h3⟩
    by_cases he : y = x
    · exact Or.inr he
    · refine Or.inl ⟨h1, h2, ?_⟩
      simpa [he] using h3⟩

end Go.Proofs.Qxb6500665aDoor
