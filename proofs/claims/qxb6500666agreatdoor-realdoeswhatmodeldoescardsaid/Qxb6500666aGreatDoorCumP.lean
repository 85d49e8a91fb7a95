/- CumulativeIsPrecedingPlusIncrementals. Plain. -/
import Derived.Test.Qxb6500666aGreatDoorLedP
import Derived.Test.Qxb6500666aGreatDoorMapN
namespace Go.Proofs.Qxb6500666aGreatDoor
open Go.RowKit

def relAt (fs : List File) (k : Nat) : List Row := (relOf (fs.take k)).getD []
theorem go_of {m l o : List Row} {cs : List Change} (h : Agree m l) (ha : applyF l cs = some o) : ∃ m', plainGo m cs = some m' ∧ Agree m' o := by
  cases ho : ordFrom none cs with
  | false =>
    have := applyGo_unordered cs none l [] ho
    rw [show applyF l cs = applyGo none l [] cs from rfl, this] at ha
    cases ha
  | true =>
    rcases go_agree cs m l [] none h rfl ho with ⟨h1, h2⟩ | ⟨o', m', h1, h2, h3⟩
    · rw [show applyF l cs = applyGo none l [] cs from rfl, h1] at ha
      cases ha
    · rw [show applyF l cs = applyGo none l [] cs from rfl, h1] at ha
      injection ha with ha
      subst ha
      exact ⟨m', h2, h3⟩
theorem plainGo_append : ∀ (a b : List Change) (m : List Row), plainGo m (a ++ b) = (plainGo m a).bind fun m' => plainGo m' b
  | [], b, m => rfl
  | c :: a, b, m => by
    simp only [List.cons_append, plainGo]
    cases plainStep m c with
    | none => rfl
    | some m' => exact plainGo_append a b m'
/-- One line of the file on the map. -/
theorem plainGo_at {m m' : List Row} {cs : List Change} (h : plainGo m cs = some m') {j : Nat} (hj : j < cs.length) : ∃ mj mk, plainGo m (cs.take j) = some mj ∧ plainStep mj cs[j] = some mk ∧ plainGo m (cs.take (j + 1)) = some mk := by
  have e : cs = cs.take j ++ cs[j] :: cs.drop (j + 1) := by
    rw [← List.drop_eq_getElem_cons hj, List.take_append_drop]
  rw [e, plainGo_append] at h
  cases h1 : plainGo m (cs.take j) with
  | none =>
    rw [h1] at h
    cases h
  | some mj =>
    rw [h1] at h
    have h : plainGo mj (cs[j] :: cs.drop (j + 1)) = some m' := h
    rw [plainGo] at h
    cases h2 : plainStep mj cs[j] with
    | none =>
      rw [h2] at h
      cases h
    | some mk =>
      refine ⟨mj, mk, rfl, h2, ?_⟩
      rw [List.take_succ_eq_append_getElem hj, plainGo_append, h1]
      show plainGo mj [cs[j]] = some mk
      rw [plainGo, h2]
      rfl
inductive PStep (m : List Row) (c : Change) (m' : List Row) : Prop
  | new (h : c.action = 78) (hl : mlook m c.row.sample c.row.analyte = none) (hm : m' = mput m c.row) : PStep m c m'
  | corr (r : Row) (h : c.action = 67) (hl : mlook m c.row.sample c.row.analyte = some r) (hn : r.eqB c.row = false) (hm : m' = mput m c.row) : PStep m c m'
  | wd (h : c.action = 87) (hl : mlook m c.row.sample c.row.analyte = some c.row) (hm : m' = mdel m c.row.sample c.row.analyte) : PStep m c m'
theorem plainStep_cases {m m' : List Row} {c : Change} (h : plainStep m c = some m') : PStep m c m' := by
  unfold plainStep at h
  cases hl : mlook m c.row.sample c.row.analyte with
  | none =>
    rw [hl] at h
    simp at h
    exact .new h.1 hl h.2.symm
  | some r =>
    rw [hl] at h
    simp at h
    split at h
    · rename_i hc
      injection h with h
      exact .corr r hc.1 hl hc.2 h.symm
    · split at h
      · rename_i hc
        injection h with h
        have := (Row.eqB_iff r c.row).1 hc.2
        subst this
        exact .wd hc.1 hl h.symm
      · cases h
section
variable {ps : List KV} {fs : List File} {rows m : List Row}
theorem relAt_zero (fs : List File) : relAt fs 0 = [] := rfl
theorem FI.relAt_all (h : FI ps fs rows) : relAt fs fs.length = rows := by simp [relAt, h.rel]
theorem agree_nil : Agree [] [] := ⟨List.Pairwise.nil, List.Pairwise.nil, rfl, fun _ _ => rfl⟩
theorem FI.relAt_some (h : FI ps fs rows) (i : Nat) : relOf (fs.take i) = some (relAt fs i) := by
  obtain ⟨rs, hr⟩ := h.pre i
  simp [relAt, hr]
theorem FI.relAt_succ (h : FI ps fs rows) {i : Nat} (hi : i < fs.length) : relF (some (relAt fs i)) fs[i] = some (relAt fs (i + 1)) := by
  have h1 := h.relAt_some (i + 1)
  rw [List.take_succ_eq_append_getElem hi, relOf_snoc, h.relAt_some i] at h1
  rw [h1]
theorem FI.cumStep (h : FI ps fs rows) {i : Nat} (hi : i < fs.length) (hk : fs[i].kind = 67) (ha : Agree m (relAt fs i)) : fs[i].changes.length = m.length ∧ (∀ c ∈ fs[i].changes, mlook m c.row.sample c.row.analyte = some c.row) ∧ Agree m (relAt fs (i + 1)) ∧ cumOf (fs.take (i + 1)) = fs[i].seq := by
  obtain ⟨rs, h1, h2⟩ := h.cum i hi hk
  rw [h.relAt_some i] at h1
  injection h1 with h1
  have h3 := h.relAt_succ hi
  unfold relF at h3
  dsimp only at h3
  rw [if_neg (by omega)] at h3
  injection h3 with h3
  refine ⟨?_, ?_, ?_, ?_⟩
  · rw [h2, ha.len, h1]
    simp [asCur]
  · rw [h2]
    intro c hc
    simp only [asCur, List.mem_map] at hc
    obtain ⟨r, hr, rfl⟩ := hc
    rw [ha.look]
    rw [h1]
    exact mlook_self (h1 ▸ ha.rise) hr
  · rw [← h3]
    exact ha
  · rw [List.take_succ_eq_append_getElem hi, cumOf_snoc, if_pos hk]
theorem FI.incStep (h : FI ps fs rows) {i : Nat} (hi : i < fs.length) (hk : fs[i].kind = 73) (ha : Agree m (relAt fs i)) : ∃ m', plainGo m fs[i].changes = some m' ∧ Agree m' (relAt fs (i + 1)) ∧ cumOf (fs.take (i + 1)) = cumOf (fs.take i) := by
  have h3 := h.relAt_succ hi
  unfold relF at h3
  dsimp only at h3
  rw [if_pos hk] at h3
  obtain ⟨m', h4, h5⟩ := go_of ha h3
  exact ⟨m', h4, h5, by rw [List.take_succ_eq_append_getElem hi, cumOf_snoc, if_neg (by omega)]⟩
/-- The rows in the map are rows of the list. -/
theorem Agree.mem {l : List Row} (h : Agree m l) {q : Row} (hq : q ∈ m) : q ∈ l := by
  have := mlook_apart h.apart hq
  rw [h.look] at this
  exact (mlook_mem this).1
end
end Go.Proofs.Qxb6500666aGreatDoor
