/- What Apply computes, in plain terms. Nothing of the program's code. -/
import Derived.Test.Qxb6500666aGreatDoorRowsOf
namespace Go.Proofs.Qxb6500666aGreatDoor

/-- The rows whose keys come before k's pass from the rest to the gathered. -/
def skipTo (k : Row) : List Row → List Row → List Row × List Row
  | out, [] => (out, [])
  | out, r :: rest => if cmpK r k < 0 then skipTo k (out ++ [r]) rest else (out, r :: rest)

/-- One line carried out. -/
def stepGo (c : Change) (out rest : List Row) : Option (List Row × List Row) :=
  if c.action = 78 then
    match rest with
    | [] => some (out ++ [c.row], [])
    | r :: rest => if cmpK r c.row = 0 then none else some (out ++ [c.row], r :: rest)
  else if c.action = 67 then
    match rest with
    | [] => none
    | r :: rest => if cmpK r c.row = 0 ∧ r.eqB c.row = false then some (out ++ [c.row], rest) else none
  else if c.action = 87 then
    match rest with
    | [] => none
    | r :: rest => if cmpK r c.row = 0 ∧ r.eqB c.row = true then some (out, rest) else none
  else none

/-- The first row left has k's key. -/
def headIs (k : Row) : List Row → Bool
  | [] => false
  | r :: _ => cmpK r k == 0

def prevBad : Option Row → Row → Bool
  | none, _ => false
  | some p, r => decide (0 ≤ cmpK p r)

def applyGo : Option Row → List Row → List Row → List Change → Option (List Row)
  | _, rest, out, [] => some (out ++ rest)
  | prev, rest, out, c :: cs =>
    if prevBad prev c.row then none
    else
      match stepGo c (skipTo c.row out rest).1 (skipTo c.row out rest).2 with
      | none => none
      | some (out', rest') => applyGo (some c.row) rest' out' cs

def applyF (rs : List Row) (cs : List Change) : Option (List Row) := applyGo none rs [] cs

theorem drop_cons {α : Type} (l : List α) (i : Nat) (h : i < l.length) : l.drop i = l[i] :: l.drop (i + 1) := List.drop_eq_getElem_cons h

theorem cmpK_cases (a b : Row) : cmpK a b = -1 ∨ cmpK a b = 0 ∨ cmpK a b = 1 := by
  unfold cmpK
  split
  · exact Or.inl rfl
  · split
    · exact Or.inr (Or.inr rfl)
    · split
      · exact Or.inl rfl
      · split
        · exact Or.inr (Or.inr rfl)
        · exact Or.inr (Or.inl rfl)

section
variable {c : Change} {out rest t : List Row} {r : Row}
theorem stepGo_new_bad (h : c.action = 78) (hp : headIs c.row rest = true) : stepGo c out rest = none := by
  cases rest with
  | nil => simp [headIs] at hp
  | cons r t => simp only [headIs, beq_iff_eq] at hp; simp [stepGo, h, hp]
theorem stepGo_new_ok (h : c.action = 78) (hp : headIs c.row rest = false) : stepGo c out rest = some (out ++ [c.row], rest) := by
  cases rest with
  | nil => simp [stepGo, h]
  | cons r t => simp only [headIs, beq_eq_false_iff_ne, ne_eq] at hp; simp [stepGo, h, hp]
theorem stepGo_corr_no (h : c.action = 67) (hp : headIs c.row rest = false) : stepGo c out rest = none := by
  cases rest with
  | nil => simp [stepGo, h]
  | cons r t => simp only [headIs, beq_eq_false_iff_ne, ne_eq] at hp; simp [stepGo, h, hp]
theorem stepGo_corr_same (h : c.action = 67) (he : r.eqB c.row = true) : stepGo c out (r :: t) = none := by
  simp [stepGo, h, he]
theorem stepGo_corr_ok (h : c.action = 67) (hp : headIs c.row (r :: t) = true) (he : r.eqB c.row = false) : stepGo c out (r :: t) = some (out ++ [c.row], t) := by
  simp only [headIs, beq_iff_eq] at hp
  simp [stepGo, h, he, hp]
theorem stepGo_wd_no (h : c.action = 87) (hp : headIs c.row rest = false) : stepGo c out rest = none := by
  cases rest with
  | nil => simp [stepGo, h]
  | cons r t => simp only [headIs, beq_eq_false_iff_ne, ne_eq] at hp; simp [stepGo, h, hp]
theorem stepGo_wd_other (h : c.action = 87) (he : r.eqB c.row = false) : stepGo c out (r :: t) = none := by
  simp [stepGo, h, he]
theorem stepGo_wd_ok (h : c.action = 87) (hp : headIs c.row (r :: t) = true) (he : r.eqB c.row = true) : stepGo c out (r :: t) = some (out, t) := by
  simp only [headIs, beq_iff_eq] at hp
  simp [stepGo, h, he, hp]
theorem stepGo_none (h1 : ¬ c.action = 78) (h2 : ¬ c.action = 67) (h3 : ¬ c.action = 87) : stepGo c out rest = none := by
  simp [stepGo, h1, h2, h3]
theorem lt_of_head {rs : List Row} {i : Nat} {k : Row} (hp : headIs k (rs.drop i) = true) : i < rs.length := by
  apply Classical.byContradiction
  intro hn
  have : rs.drop i = [] := by rw [List.drop_eq_nil_iff]; omega
  rw [this] at hp
  simp [headIs] at hp
end

end Go.Proofs.Qxb6500666aGreatDoor
