/- IssuedRowsAreJustified: what an issued file holds. Plain. -/
import Derived.Test.Qxb6500666aGreatDoorTieF
import Derived.Test.Qxb6500666aGreatDoorJustP
namespace Go.Proofs.Qxb6500666aGreatDoor
open Go.RowKit
/-- Each key once. -/
def cntK (l : List Row) : Int → Int → Option Value := fun s a => if (mlook l s a).isSome then some (.int .i64 1) else none
theorem cntK_zero : cntK [] = fun _ _ => none := rfl
theorem cntK_new {l : List Row} (h : Rise l) {j : Nat} (hj : j < l.length) : cntK (l.take j) l[j].sample l[j].analyte = none := by
  unfold cntK
  rw [if_neg]
  have : mlook (l.take j) l[j].sample l[j].analyte = none := by
    refine mlook_none fun r hr e => ?_
    obtain ⟨i, hi, ei⟩ := List.mem_iff_getElem.1 hr
    have hi' : i < j := by have := hi; rw [List.length_take] at this; omega
    have hlt := List.pairwise_iff_getElem.1 h i j (by omega) hj hi'
    rw [← ei, List.getElem_take] at e
    unfold keyLt at hlt
    omega
  rw [this]
  simp
theorem cntK_next {l : List Row} {j : Nat} (hj : j < l.length) : upd2 (cntK (l.take j)) l[j].sample l[j].analyte (some (.int .i64 1)) = cntK (l.take (j + 1)) := by
  funext s a
  unfold upd2 cntK
  rw [List.take_succ_eq_append_getElem hj, mlook_append]
  by_cases hk : s = l[j].sample ∧ a = l[j].analyte
  · rw [if_pos hk]
    have : (mlook [l[j]] s a).isSome = true := by rw [mlook_cons, if_pos (atK_true.2 ⟨hk.1.symm, hk.2.symm⟩)]; rfl
    cases h1 : mlook (l.take j) s a with
    | some x => simp
    | none => simp [this]
  · rw [if_neg hk]
    have : mlook [l[j]] s a = none := by rw [mlook_cons, if_neg (by rw [Bool.not_eq_true, atK_false]; intro e; exact hk ⟨e.1.symm, e.2.symm⟩)]; rfl
    rw [this, Option.or_none]
/-- A result is due. -/
def dueB (L : Low) (r : Res) : Bool := (elgOf L r).isSome
theorem due_len (L : Low) : (L.sm.rs.filter (dueB L)).length = (elgs L).length := by
  unfold elgs dueB
  induction L.sm.rs with
  | nil => rfl
  | cons r rs ih =>
    rw [List.filterMap_cons, List.filter_cons]
    cases h : elgOf L r with
    | none => simpa using ih
    | some y => simp [ih]
theorem due_take {L : Low} {q : Nat} (h : q < L.sm.rs.length) : ((L.sm.rs.take (q + 1)).filter (dueB L)).length = ((L.sm.rs.take q).filter (dueB L)).length + if dueB L L.sm.rs[q] then 1 else 0 := by
  rw [List.take_succ_eq_append_getElem h, List.filter_append, List.length_append, List.filter_cons]
  cases dueB L L.sm.rs[q] <;> simp
theorem due_just {n : Nat} {L : Low} (hv : VI n L) (hn : NU L) (hu : SU L.sm) {s : Smp} {r : Res} (hs : smpGet L.sm r.sample = some s) (hr : r ∈ L.sm.rs) : justB L (rowM L s r) = dueB L r := by
  have h1 := just_of hv hn hs hr hu.nd
  rw [rowM_of hs]
  unfold dueB elgOf
  rw [hs]
  simp only
  by_cases h0 : holdsOf L s r = 0
  · rw [h1.2 h0, if_pos (by simpa using h0)]
    rfl
  · rw [if_neg (by simpa using h0)]
    cases hj : justB L (rowOf L s r) with
    | true => exact absurd (h1.1 hj) h0
    | false => rfl
/-- What the law wants of an issued file. -/
structure IsF (L : Low) (f : File) : Prop where
  rise : Rise (f.changes.map (·.row))
  just : ∀ c ∈ f.changes, c.action ≠ 87 → justB L c.row = true
  due : f.kind = 67 → (L.sm.rs.filter (dueB L)).length = f.changes.length ∧ ∀ r ∈ L.sm.rs, dueB L r = true → cntK (f.changes.map (·.row)) r.sample r.analyte = some (.int .i64 1)
theorem elig_just {n : Nat} {L : Low} (hv : VI n L) (hn : NU L) (hu : SU L.sm) {E : List Row} (hE : eligR L = some E) {y : Row} (hy : y ∈ E) : justB L y = true := by
  obtain ⟨-, h2, -⟩ := eligR_spec hu hE
  obtain ⟨r, hr, s, hs, h0, e, -⟩ := h2 y hy
  rw [e]
  exact (just_of hv hn hs hr hu.nd).2 h0
theorem issued_ok {n q : Nat} {t : ST} {m : Mod} {rows rows' : List Row} {fs' : List File} {r : Req} {iss : Int} {L' : Low} (h : TJ q t m rows) (hv : VI n t.low) (hn : NU t.low) (hu : SU t.low.sm) (hi : iss ≠ 0) (hs : FStep t.low r iss m.fs rows fs' rows' L') :
    L' = t.low ∧ iss = (m.fs.length : Int) + 1 ∧ ∃ f, fs' = m.fs ++ [f] ∧ IsF t.low f := by
  rcases hs with ⟨-, -, -, -, e⟩ | ⟨k, e1, e2, E, hE, e3, e4⟩ | ⟨k, e1, e2, hE, e3, e4⟩
  · exact absurd e hi
  · refine ⟨e1, e2, _, e3, ⟨?_, ?_, fun k => by cases k⟩⟩
    · show Rise (((differ rows E).take 20).map (·.row))
      rw [List.map_take]
      exact (applyF_look h.fi.rise (apply_differ h.fi.rise (eligR_spec hu hE).1)).2.1.sublist (List.take_sublist _ _)
    · intro c hc ha
      have hm : c ∈ differ rows E := List.mem_of_mem_take hc
      exact elig_just hv hn hu hE (differ_elig h.fi.rise (eligR_spec hu hE).1 hm ha)
  · have hmap : (asCur rows).map (·.row) = rows := by unfold asCur; rw [List.map_map]; exact List.map_id _
    refine ⟨e1, e2, _, e3, ⟨?_, ?_, fun _ => ⟨?_, ?_⟩⟩⟩
    · show Rise ((asCur rows).map (·.row))
      rw [hmap]
      exact h.fi.rise
    · intro c hc _
      obtain ⟨y, hy, e⟩ := List.mem_map.1 hc
      rw [← e]
      exact elig_just hv hn hu hE hy
    · show _ = (asCur rows).length
      have e5 := mEliB_eq hu hE
      rw [due_len, ← ordK_len, show ordK (elgs t.low) = mEliB t.low from rfl, e5]
      unfold asCur
      rw [List.length_map]
    · intro r' hr' hd
      show cntK ((asCur rows).map (·.row)) r'.sample r'.analyte = _
      rw [hmap]
      unfold dueB at hd
      obtain ⟨y, hy⟩ := Option.isSome_iff_exists.1 hd
      have hm : y ∈ rows := by
        have e5 := mEliB_eq hu hE
        rw [← e5]
        unfold mEliB
        rw [(ordK_perm _).mem_iff]
        exact List.mem_filterMap.2 ⟨r', hr', hy⟩
      have hk := elgOf_key hy
      unfold cntK
      rw [← hk.1, ← hk.2, mlook_self h.fi.rise hm]
      rfl
end Go.Proofs.Qxb6500666aGreatDoor
