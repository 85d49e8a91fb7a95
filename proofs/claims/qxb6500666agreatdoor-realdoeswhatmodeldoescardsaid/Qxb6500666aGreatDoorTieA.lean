/- The pairs of two lists of rows, told by their keys. Plain. -/
import Derived.Test.Qxb6500666aGreatDoorCorQ
namespace Go.Proofs.Qxb6500666aGreatDoor
open Go.RowKit
/-- The row by which a pair is told. -/
def kOf : Option Row × Option Row → Row
  | (some b, _) => b
  | (none, some a) => a
  | (none, none) => zeroRow
theorem look_lt {l : List Row} {x : Row} (h : ∀ y ∈ l, keyLt x y) : mlook l x.sample x.analyte = none :=
  mlook_none fun r hr e => by have := h r hr; unfold keyLt at this; omega
theorem look_skip {b x : Row} {l : List Row} (h : keyLt b x) : mlook (b :: l) x.sample x.analyte = mlook l x.sample x.analyte := by
  rw [mlook_cons, if_neg (by rw [Bool.not_eq_true, atK_false]; intro e; unfold keyLt at h; omega)]
theorem pairs_keys : ∀ (f : Nat) (bs ts : List Row), bs.length + ts.length ≤ f → Rise bs → Rise ts → Rise ((pairs f bs ts).map kOf) ∧ ∀ x, x ∈ (pairs f bs ts).map kOf ↔ x ∈ bs ∨ (x ∈ ts ∧ mlook bs x.sample x.analyte = none)
  | 0, bs, ts, hl, _, _ => by
    have h1 : bs = [] := List.length_eq_zero_iff.1 (by omega)
    have h2 : ts = [] := List.length_eq_zero_iff.1 (by omega)
    subst h1 h2
    exact ⟨List.Pairwise.nil, fun x => by simp [pairs]⟩
  | f + 1, [], [], _, _, _ => ⟨List.Pairwise.nil, fun x => by simp [pairs]⟩
  | f + 1, [], a :: ts, hl, h1, h2 => by
    have h3 := List.pairwise_cons.1 h2
    obtain ⟨i1, i2⟩ := pairs_keys f [] ts (by simpa using hl) h1 h3.2
    simp only [pairs, List.map_cons, kOf]
    refine ⟨List.pairwise_cons.2 ⟨fun y hy => ?_, i1⟩, fun x => ?_⟩
    · rcases (i2 y).1 hy with h | h
      · cases h
      · exact h3.1 y h.1
    · rw [List.mem_cons, i2, List.mem_cons]
      simp [mlook_nil]
  | f + 1, b :: bs, [], hl, h1, h2 => by
    have h3 := List.pairwise_cons.1 h1
    obtain ⟨i1, i2⟩ := pairs_keys f bs [] (by simpa using hl) h3.2 h2
    simp only [pairs, List.map_cons, kOf]
    refine ⟨List.pairwise_cons.2 ⟨fun y hy => ?_, i1⟩, fun x => ?_⟩
    · rcases (i2 y).1 hy with h | h
      · exact h3.1 y h
      · cases h.1
    · rw [List.mem_cons, i2, List.mem_cons]
      simp
  | f + 1, b :: bs, a :: ts, hl, h1, h2 => by
    have h3 := List.pairwise_cons.1 h1
    have h4 := List.pairwise_cons.1 h2
    simp only [List.length_cons] at hl
    by_cases c1 : cmpK b a < 0
    · have hba := cmpK_neg.1 c1
      obtain ⟨i1, i2⟩ := pairs_keys f bs (a :: ts) (by simp only [List.length_cons]; omega) h3.2 h2
      simp only [pairs, if_pos c1, List.map_cons, kOf]
      have hlt : ∀ y ∈ a :: ts, keyLt b y := fun y hy => by
        rcases List.mem_cons.1 hy with rfl | hy
        · exact hba
        · exact keyLt_trans hba (h4.1 y hy)
      refine ⟨List.pairwise_cons.2 ⟨fun y hy => ?_, i1⟩, fun x => ?_⟩
      · rcases (i2 y).1 hy with h | h
        · exact h3.1 y h
        · exact hlt y h.1
      · have e : x ∈ b :: bs ↔ x = b ∨ x ∈ bs := List.mem_cons
        rw [List.mem_cons, i2, e, or_assoc]
        refine or_congr_right (or_congr_right (and_congr_right fun hx => ?_))
        rw [look_skip (hlt x hx)]
    · by_cases c2 : 0 < cmpK b a
      · have hab := cmpK_pos.1 c2
        obtain ⟨i1, i2⟩ := pairs_keys f (b :: bs) ts (by simp only [List.length_cons]; omega) h1 h4.2
        simp only [pairs, if_neg c1, if_pos c2, List.map_cons, kOf]
        have hlt : ∀ y ∈ b :: bs, keyLt a y := fun y hy => by
          rcases List.mem_cons.1 hy with rfl | hy
          · exact hab
          · exact keyLt_trans hab (h3.1 y hy)
        refine ⟨List.pairwise_cons.2 ⟨fun y hy => ?_, i1⟩, fun x => ?_⟩
        · rcases (i2 y).1 hy with h | h
          · exact hlt y h
          · exact h4.1 y h.1
        · have e : x ∈ a :: ts ↔ x = a ∨ x ∈ ts := List.mem_cons
          rw [List.mem_cons, i2, e]
          constructor
          · rintro (rfl | h | h)
            · exact Or.inr ⟨Or.inl rfl, look_lt hlt⟩
            · exact Or.inl h
            · exact Or.inr ⟨Or.inr h.1, h.2⟩
          · rintro (h | ⟨rfl | h, h5⟩)
            · exact Or.inr (Or.inl h)
            · exact Or.inl rfl
            · exact Or.inr (Or.inr ⟨h, h5⟩)
      · have hz := cmpK_zero.1 (by omega : cmpK b a = 0)
        obtain ⟨i1, i2⟩ := pairs_keys f bs ts (by omega) h3.2 h4.2
        simp only [pairs, if_neg c1, if_neg c2, List.map_cons, kOf]
        have hlt : ∀ y ∈ ts, keyLt b y := fun y hy => by have := h4.1 y hy; unfold keyLt at *; omega
        refine ⟨List.pairwise_cons.2 ⟨fun y hy => ?_, i1⟩, fun x => ?_⟩
        · rcases (i2 y).1 hy with h | h
          · exact h3.1 y h
          · exact hlt y h.1
        · have e1 : x ∈ a :: ts ↔ x = a ∨ x ∈ ts := List.mem_cons
          have e2 : x ∈ b :: bs ↔ x = b ∨ x ∈ bs := List.mem_cons
          rw [List.mem_cons, i2, e1, e2, or_assoc]
          refine or_congr_right (or_congr_right ⟨fun h => ⟨Or.inr h.1, by rw [look_skip (hlt x h.1)]; exact h.2⟩, fun h => ?_⟩)
          rcases h with ⟨rfl | h, h5⟩
          · rw [mlook_cons, if_pos (atK_true.2 hz)] at h5
            cases h5
          · exact ⟨h, by rw [look_skip (hlt x h)] at h5; exact h5⟩
/-- Each pair is what the two lists have at its key. -/
theorem pairs_at {bs ts : List Row} (h1 : Rise bs) (h2 : Rise ts) {x : Option Row × Option Row} (hx : x ∈ pairs (bs.length + ts.length) bs ts) : x = (mlook bs (kOf x).sample (kOf x).analyte, mlook ts (kOf x).sample (kOf x).analyte) := by
  obtain ⟨s, a, e, h⟩ := pairs_look _ bs ts (Nat.le_refl _) h1 h2 x hx
  have hk : (kOf x).sample = s ∧ (kOf x).analyte = a := by
    rw [e]
    cases hb : mlook bs s a with
    | some b => exact (mlook_mem hb).2
    | none =>
      cases ht : mlook ts s a with
      | some t => exact (mlook_mem ht).2
      | none =>
        rcases h with ⟨r, hr, k1, k2⟩ | ⟨r, hr, k1, k2⟩
        · have := mlook_self h1 hr
          rw [k1, k2, hb] at this
          cases this
        · have := mlook_self h2 hr
          rw [k1, k2, ht] at this
          cases this
  rw [hk.1, hk.2]
  exact e
theorem flat_keys {β : Type} {g : Option Row × Option Row → List β} {bs ts : List Row} (h1 : Rise bs) (h2 : Rise ts) : flatL g (pairs (bs.length + ts.length) bs ts) = ((pairs (bs.length + ts.length) bs ts).map kOf).flatMap fun k => g (mlook bs k.sample k.analyte, mlook ts k.sample k.analyte) := by
  have key : ∀ l : List (Option Row × Option Row), (∀ x ∈ l, x = (mlook bs (kOf x).sample (kOf x).analyte, mlook ts (kOf x).sample (kOf x).analyte)) → flatL g l = (l.map kOf).flatMap fun k => g (mlook bs k.sample k.analyte, mlook ts k.sample k.analyte) := by
    intro l
    induction l with
    | nil => intro _; rfl
    | cons x l ih =>
      intro h
      rw [List.map_cons, List.flatMap_cons, flatL, ih (fun y hy => h y (List.mem_cons_of_mem _ hy)), ← h x (List.mem_cons_self ..)]
  exact key _ fun x hx => pairs_at h1 h2 hx
end Go.Proofs.Qxb6500666aGreatDoor
