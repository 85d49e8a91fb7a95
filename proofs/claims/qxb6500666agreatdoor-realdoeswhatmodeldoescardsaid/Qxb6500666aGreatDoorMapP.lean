/- Plain maps from keys to rows; Apply and Differ, plain. (Made by tools/mk_mapp.py out of t/MapRow, t/PlainApplyWalk, t/PlainLaw.) -/
import Derived.Test.Qxb6500666aGreatDoorApPlain
import Derived.Test.Qxb6500666aGreatDoorEligP
namespace Go.Proofs.Qxb6500666aGreatDoor
open Go.RowKit

/-- The row with that key. -/
def atK (s a : Int) (r : Row) : Bool := r.sample == s && r.analyte == a
theorem atK_true {s a : Int} {r : Row} : atK s a r = true ↔ r.sample = s ∧ r.analyte = a := by simp [atK]
theorem atK_false {s a : Int} {r : Row} : atK s a r = false ↔ ¬ (r.sample = s ∧ r.analyte = a) := by
  rw [← atK_true]; simp

def mlook (m : List Row) (s a : Int) : Option Row := m.find? (atK s a)
def mdel (m : List Row) (s a : Int) : List Row := m.filter fun r => !(atK s a r)
def mput (m : List Row) (r : Row) : List Row := mdel m r.sample r.analyte ++ [r]

/-- No key twice. -/
def Apart (m : List Row) : Prop := m.Pairwise fun p q => ¬ (p.sample = q.sample ∧ p.analyte = q.analyte)

theorem mlook_nil (s a : Int) : mlook [] s a = none := rfl
theorem mlook_cons (r : Row) (m : List Row) (s a : Int) : mlook (r :: m) s a = if atK s a r then some r else mlook m s a := by
  unfold mlook
  rw [List.find?_cons]
  cases atK s a r <;> rfl
theorem mdel_cons (r : Row) (m : List Row) (s a : Int) : mdel (r :: m) s a = if atK s a r then mdel m s a else r :: mdel m s a := by
  unfold mdel
  rw [List.filter_cons]
  cases atK s a r <;> rfl
theorem mlook_append (m m' : List Row) (s a : Int) : mlook (m ++ m') s a = (mlook m s a).or (mlook m' s a) := List.find?_append

theorem mlook_del_same (m : List Row) (s a : Int) : mlook (mdel m s a) s a = none := by
  induction m with
  | nil => rfl
  | cons r m ih =>
    rw [mdel_cons]
    cases h : atK s a r with
    | true => exact ih
    | false => rw [if_neg (by simp), mlook_cons, h]; exact ih

theorem mlook_del_other (m : List Row) (s a s' a' : Int) (h : ¬ (s' = s ∧ a' = a)) : mlook (mdel m s a) s' a' = mlook m s' a' := by
  induction m with
  | nil => rfl
  | cons r m ih =>
    rw [mdel_cons, mlook_cons]
    cases h1 : atK s a r with
    | true =>
      have h2 : atK s' a' r = false := by rw [atK_false]; rw [atK_true] at h1; omega
      rw [h2]; exact ih
    | false => rw [if_neg (by simp), mlook_cons, ih]

theorem mlook_put_same (m : List Row) (r : Row) : mlook (mput m r) r.sample r.analyte = some r := by
  unfold mput
  rw [mlook_append, mlook_del_same, mlook_cons]
  have : atK r.sample r.analyte r = true := by simp [atK]
  rw [this]; rfl

theorem mlook_put_other (m : List Row) (r : Row) (s a : Int) (h : ¬ (s = r.sample ∧ a = r.analyte)) : mlook (mput m r) s a = mlook m s a := by
  unfold mput
  rw [mlook_append, mlook_del_other _ _ _ _ _ h, mlook_cons]
  have : atK s a r = false := by rw [atK_false]; omega
  rw [this, mlook_nil]
  simp

theorem apart_del {m : List Row} (h : Apart m) (s a : Int) : Apart (mdel m s a) := List.Pairwise.filter _ h

theorem apart_put {m : List Row} (h : Apart m) (r : Row) : Apart (mput m r) := by
  unfold mput Apart
  rw [List.pairwise_append]
  refine ⟨apart_del h _ _, List.pairwise_singleton _ _, fun p hp q hq => ?_⟩
  simp only [List.mem_singleton] at hq
  subst hq
  unfold mdel at hp
  simp only [List.mem_filter] at hp
  have := hp.2
  rw [Bool.not_eq_true', atK_false] at this
  exact this

theorem mdel_len {m : List Row} (h : Apart m) (s a : Int) : (mdel m s a).length + (if (mlook m s a).isSome then 1 else 0) = m.length := by
  induction m with
  | nil => rfl
  | cons r m ih =>
    have h' := List.pairwise_cons.1 h
    have := ih h'.2
    rw [mdel_cons, mlook_cons]
    cases hr : atK s a r with
    | true =>
      have hnone : mlook m s a = none := by
        unfold mlook
        rw [List.find?_eq_none]
        intro q hq hc
        rw [atK_true] at hr hc
        exact h'.1 q hq ⟨by omega, by omega⟩
      rw [hnone] at this
      simp at this ⊢
      omega
    | false =>
      simp only [Bool.false_eq_true, if_false, List.length_cons] at this ⊢
      omega

/-- One line on the plain map; none: it does not fit. -/
def plainStep (m : List Row) (c : Change) : Option (List Row) :=
  if c.action == 78 && !(mlook m c.row.sample c.row.analyte).isSome then some (mput m c.row)
  else if c.action == 67 && (mlook m c.row.sample c.row.analyte).isSome && !((mlook m c.row.sample c.row.analyte).getD zeroRow).eqB c.row then some (mput m c.row)
  else if c.action == 87 && (mlook m c.row.sample c.row.analyte).isSome && ((mlook m c.row.sample c.row.analyte).getD zeroRow).eqB c.row then some (mdel m c.row.sample c.row.analyte)
  else none

def plainGo (m : List Row) : List Change → Option (List Row)
  | [] => some m
  | c :: r => match plainStep m c with
    | none => none
    | some m' => plainGo m' r

def mapOf (rs : List Row) : List Row := rs.foldl mput []

theorem mapOf_snoc (rs : List Row) (r : Row) : mapOf (rs ++ [r]) = mput (mapOf rs) r := by simp [mapOf, List.foldl_append]

theorem rise_of_ordB : ∀ {l : List Row}, ordB l = true → Rise l
  | [], _ => List.Pairwise.nil
  | [_], _ => List.pairwise_singleton _ _
  | a :: b :: r, h => by
    simp only [ordB, Bool.and_eq_true, keyLtB_iff] at h
    have ih := rise_of_ordB h.2
    refine List.pairwise_cons.2 ⟨fun c hc => ?_, ih⟩
    rcases List.mem_cons.1 hc with rfl | hc
    · exact h.1
    · exact keyLt_trans h.1 ((List.pairwise_cons.1 ih).1 c hc)

theorem ordB_of_rise : ∀ {l : List Row}, Rise l → ordB l = true
  | [], _ => rfl
  | [_], _ => rfl
  | a :: b :: r, h => by
    have h' := List.pairwise_cons.1 h
    simp only [ordB, Bool.and_eq_true, keyLtB_iff]
    exact ⟨h'.1 b (List.mem_cons_self ..), ordB_of_rise h'.2⟩


theorem apart_of_rise {l : List Row} (h : Rise l) : Apart l := h.imp fun {a b} hk => by unfold keyLt at hk; omega

theorem mlook_none {l : List Row} {s a : Int} (h : ∀ r ∈ l, ¬ (r.sample = s ∧ r.analyte = a)) : mlook l s a = none := by
  unfold mlook
  rw [List.find?_eq_none]
  intro r hr hc
  exact h r hr (atK_true.1 hc)

theorem mlook_mem {l : List Row} {s a : Int} {r : Row} (h : mlook l s a = some r) : r ∈ l ∧ r.sample = s ∧ r.analyte = a :=
  ⟨List.mem_of_find?_eq_some h, atK_true.1 (List.find?_some h)⟩

theorem mlook_self {l : List Row} (h : Rise l) {r : Row} (hr : r ∈ l) : mlook l r.sample r.analyte = some r := by
  induction l with
  | nil => simp at hr
  | cons b l ih =>
    have h' := List.pairwise_cons.1 h
    rw [mlook_cons]
    rcases List.mem_cons.1 hr with rfl | hr'
    · have : atK r.sample r.analyte r = true := by simp [atK]
      rw [this]; rfl
    · have := h'.1 r hr'
      have e : atK r.sample r.analyte b = false := by rw [atK_false]; unfold keyLt at this; omega
      rw [e]
      exact ih h'.2 hr'

/-! Apply and plainApply. -/


def ordFrom : Option Row → List Change → Bool
  | none, cs => ordB (cs.map (·.row))
  | some p, cs => ordB (p :: cs.map (·.row))

theorem prevBad_false {p r : Row} : prevBad (some p) r = false ↔ keyLt p r := by
  simp only [prevBad, decide_eq_false_iff_not]
  rw [← cmpK_neg]
  omega

theorem ordFrom_cons (prev : Option Row) (c : Change) (cs : List Change) : ordFrom prev (c :: cs) = (!prevBad prev c.row && ordFrom (some c.row) cs) := by
  cases prev with
  | none => simp [ordFrom, prevBad]
  | some p =>
    have e : keyLtB p c.row = !prevBad (some p) c.row := by
      cases h : prevBad (some p) c.row with
      | false => exact (keyLtB_iff _ _).2 (prevBad_false.1 h)
      | true =>
        cases h2 : keyLtB p c.row with
        | false => rfl
        | true => rw [prevBad_false.2 ((keyLtB_iff _ _).1 h2)] at h; cases h
    show ordB (p :: c.row :: _) = _
    rw [ordB, e]
    rfl

theorem applyGo_unordered : ∀ (cs : List Change) (prev : Option Row) (rest out : List Row), ordFrom prev cs = false → applyGo prev rest out cs = none
  | [], prev, _, _, h => by cases prev <;> simp [ordFrom, ordB] at h
  | c :: cs, prev, rest, out, h => by
    rw [ordFrom_cons] at h
    unfold applyGo
    cases hp : prevBad prev c.row with
    | true => rfl
    | false =>
      rw [hp] at h
      simp only [Bool.not_false, Bool.true_and] at h
      simp only [Bool.false_eq_true, if_false]
      split
      · rfl
      · exact applyGo_unordered cs _ _ _ h

/-- The map agrees with the list of rows. -/
structure Agree (m l : List Row) : Prop where
  rise : Rise l
  apart : Apart m
  len : m.length = l.length
  look : ∀ s a, mlook m s a = mlook l s a

theorem rise_parts {x y : List Row} (h : Rise (x ++ y)) : Rise x ∧ Rise y ∧ ∀ a ∈ x, ∀ b ∈ y, keyLt a b := List.pairwise_append.1 h

theorem agree_put_new {m x y : List Row} {c : Row} (h : Agree m (x ++ y)) (hx : ∀ r ∈ x, keyLt r c) (hy : ∀ r ∈ y, keyLt c r) : Agree (mput m c) (x ++ [c] ++ y) := by
  obtain ⟨h1, h2, h3⟩ := rise_parts h.rise
  have hno : mlook (x ++ y) c.sample c.analyte = none := mlook_none fun r hr => by
    rcases List.mem_append.1 hr with hr | hr
    · have := hx r hr; unfold keyLt at this; omega
    · have := hy r hr; unfold keyLt at this; omega
  refine ⟨?_, apart_put h.apart c, ?_, fun s a => ?_⟩
  · refine List.pairwise_append.2 ⟨List.pairwise_append.2 ⟨h1, List.pairwise_singleton _ _, fun r hr q hq => ?_⟩, h2, fun r hr q hq => ?_⟩
    · rw [List.mem_singleton] at hq; subst hq; exact hx r hr
    · rcases List.mem_append.1 hr with hr | hr
      · exact h3 r hr q hq
      · rw [List.mem_singleton] at hr; subst hr; exact hy q hq
  · have := mdel_len h.apart c.sample c.analyte
    rw [h.look, hno] at this
    simp only [mput, List.length_append, List.length_cons, List.length_nil] at this ⊢
    have := h.len
    simp only [List.length_append] at this
    simp at *
    omega
  · by_cases he : s = c.sample ∧ a = c.analyte
    · obtain ⟨rfl, rfl⟩ := he
      rw [mlook_put_same, mlook_append, mlook_append, mlook_none (fun r hr => by have := hx r hr; unfold keyLt at this; omega), mlook_cons]
      have : atK c.sample c.analyte c = true := by simp [atK]
      rw [this]; rfl
    · rw [mlook_put_other _ _ _ _ he, h.look, mlook_append, mlook_append, mlook_append, mlook_cons]
      have : atK s a c = false := by rw [atK_false]; omega
      rw [this, mlook_nil]
      simp

theorem agree_put_old {m x y : List Row} {r c : Row} (h : Agree m (x ++ r :: y)) (hk : r.sample = c.sample ∧ r.analyte = c.analyte) : Agree (mput m c) (x ++ [c] ++ y) := by
  obtain ⟨h1, h2, h3⟩ := rise_parts h.rise
  have h2' := List.pairwise_cons.1 h2
  have hx : ∀ q ∈ x, keyLt q c := fun q hq => by have := h3 q hq r (List.mem_cons_self ..); unfold keyLt at this ⊢; omega
  have hy : ∀ q ∈ y, keyLt c q := fun q hq => by have := h2'.1 q hq; unfold keyLt at this ⊢; omega
  have hxn : mlook x c.sample c.analyte = none := mlook_none (fun q hq => by have := hx q hq; unfold keyLt at this; omega)
  have hrk : atK c.sample c.analyte r = true := atK_true.2 hk
  refine ⟨?_, apart_put h.apart c, ?_, fun s a => ?_⟩
  · refine List.pairwise_append.2 ⟨List.pairwise_append.2 ⟨h1, List.pairwise_singleton _ _, fun u hu q hq => ?_⟩, h2'.2, fun u hu q hq => ?_⟩
    · rw [List.mem_singleton] at hq; rw [hq]; exact hx u hu
    · rcases List.mem_append.1 hu with hu | hu
      · exact h3 u hu q (List.mem_cons_of_mem _ hq)
      · rw [List.mem_singleton] at hu; rw [hu]; exact hy q hq
  · have := mdel_len h.apart c.sample c.analyte
    rw [h.look, mlook_append, hxn, mlook_cons, hrk] at this
    have hl := h.len
    simp only [mput, List.length_append, List.length_cons, List.length_nil] at this hl ⊢
    simp at this
    omega
  · by_cases he : s = c.sample ∧ a = c.analyte
    · obtain ⟨rfl, rfl⟩ := he
      rw [mlook_put_same, mlook_append, mlook_append, hxn, mlook_cons]
      have : atK c.sample c.analyte c = true := by simp [atK]
      rw [this]; rfl
    · rw [mlook_put_other _ _ _ _ he, h.look, mlook_append, mlook_append, mlook_append, mlook_cons, mlook_cons]
      have e1 : atK s a c = false := by rw [atK_false]; omega
      have e2 : atK s a r = false := by rw [atK_false]; omega
      rw [e1, e2, mlook_nil]
      simp

theorem agree_del {m x y : List Row} {r c : Row} (h : Agree m (x ++ r :: y)) (hk : r.sample = c.sample ∧ r.analyte = c.analyte) : Agree (mdel m c.sample c.analyte) (x ++ y) := by
  obtain ⟨h1, h2, h3⟩ := rise_parts h.rise
  have h2' := List.pairwise_cons.1 h2
  have hxn : mlook x c.sample c.analyte = none := mlook_none (fun q hq => by have := h3 q hq r (List.mem_cons_self ..); unfold keyLt at this; omega)
  have hyn : mlook y c.sample c.analyte = none := mlook_none (fun q hq => by have := h2'.1 q hq; unfold keyLt at this; omega)
  have hr : atK c.sample c.analyte r = true := atK_true.2 hk
  refine ⟨List.pairwise_append.2 ⟨h1, h2'.2, fun p hp q hq => h3 p hp q (List.mem_cons_of_mem _ hq)⟩, apart_del h.apart _ _, ?_, fun s a => ?_⟩
  · have := mdel_len h.apart c.sample c.analyte
    rw [h.look, mlook_append, hxn, mlook_cons, hr] at this
    have hl := h.len
    simp only [List.length_append, List.length_cons] at this hl ⊢
    simp at this
    omega
  · by_cases he : s = c.sample ∧ a = c.analyte
    · obtain ⟨rfl, rfl⟩ := he
      rw [mlook_del_same, mlook_append, hxn, hyn]; rfl
    · rw [mlook_del_other _ _ _ _ _ he, h.look, mlook_append, mlook_append, mlook_cons]
      have e2 : atK s a r = false := by rw [atK_false]; omega
      rw [e2]; rfl

/-- What is gathered lies up to prev, what is left beyond it. -/
def Between (prev : Option Row) (out rest : List Row) : Prop :=
  match prev with
  | none => out = []
  | some p => (∀ r ∈ out, ¬ keyLt p r) ∧ ∀ r ∈ rest, keyLt p r

theorem keyLe_lt {a b c : Row} (h : ¬ keyLt b a) (k : keyLt b c) : keyLt a c := by unfold keyLt at *; omega

theorem eqB_false {a b : Row} : a.eqB b = false ↔ a ≠ b := by
  rw [Ne, ← Row.eqB_iff]; simp

/-- One line: Apply's step and the plain map's step agree. -/
theorem step_agree {m rest out : List Row} {prev : Option Row} {c : Change} (h : Agree m (out ++ rest)) (hb : Between prev out rest) (hp : prevBad prev c.row = false) :
    (stepGo c (skipTo c.row out rest).1 (skipTo c.row out rest).2 = none ∧ plainStep m c = none) ∨
    ∃ out' rest' m', stepGo c (skipTo c.row out rest).1 (skipTo c.row out rest).2 = some (out', rest') ∧ plainStep m c = some m' ∧ Agree m' (out' ++ rest') ∧ Between (some c.row) out' rest' := by
  obtain ⟨mid, tl, rfl, hsk, hmid, htl⟩ := skipTo_spec c.row rest out
  rw [hsk]
  simp only
  have hout : ∀ r ∈ out, keyLt r c.row := by
    intro r hr
    cases prev with
    | none => rw [show out = [] from hb] at hr; simp at hr
    | some p => exact keyLe_lt (hb.1 r hr) (prevBad_false.1 hp)
  have hx : ∀ r ∈ out ++ mid, keyLt r c.row := fun r hr => (List.mem_append.1 hr).elim (hout r) (hmid r)
  rw [← List.append_assoc] at h
  generalize out ++ mid = x at *
  obtain ⟨h1, h2, h3⟩ := rise_parts h.rise
  have hxn : mlook x c.row.sample c.row.analyte = none := mlook_none (fun q hq => by have := hx q hq; unfold keyLt at this; omega)
  have hlook := h.look c.row.sample c.row.analyte
  rw [mlook_append, hxn] at hlook
  -- the row at the head has the key, or none has
  have hcase : (headIs c.row tl = false ∧ mlook m c.row.sample c.row.analyte = none ∧ ∀ r ∈ tl, keyLt c.row r) ∨ ∃ r t, tl = r :: t ∧ headIs c.row tl = true ∧ (r.sample = c.row.sample ∧ r.analyte = c.row.analyte) ∧ mlook m c.row.sample c.row.analyte = some r ∧ ∀ q ∈ t, keyLt c.row q := by
    cases tl with
    | nil => exact Or.inl ⟨rfl, by rw [hlook]; rfl, by simp⟩
    | cons r t =>
      have h2' := List.pairwise_cons.1 h2
      have hn := htl r t rfl
      by_cases hz : cmpK r c.row = 0
      · have hk := cmpK_zero.1 hz
        refine Or.inr ⟨r, t, rfl, by simp [headIs, hz], hk, ?_, fun q hq => ?_⟩
        · rw [hlook, mlook_cons, atK_true.2 hk]; rfl
        · have := h2'.1 q hq; unfold keyLt at this ⊢; omega
      · have hlt : keyLt c.row r := by
          rcases cmpK_cases r c.row with h | h | h
          · exact absurd (cmpK_neg.1 (by omega)) hn
          · exact absurd h hz
          · exact cmpK_pos.1 (by omega)
        have hall : ∀ q ∈ r :: t, keyLt c.row q := fun q hq => by
          rcases List.mem_cons.1 hq with rfl | hq
          · exact hlt
          · exact keyLt_trans hlt (h2'.1 q hq)
        refine Or.inl ⟨by simp [headIs, hz], ?_, hall⟩
        rw [hlook, mlook_none (fun q hq => by have := hall q hq; unfold keyLt at this; omega)]
        rfl
  have hself : ¬ keyLt c.row c.row := keyLt_irrefl
  have hxc : ∀ r ∈ x, ¬ keyLt c.row r := fun r hr k => keyLt_irrefl (keyLt_trans k (hx r hr))
  have hxc1 : ∀ r ∈ x ++ [c.row], ¬ keyLt c.row r := fun r hr => by
    rcases List.mem_append.1 hr with hr | hr
    · exact hxc r hr
    · rw [List.mem_singleton] at hr; rw [hr]; exact hself
  by_cases a78 : c.action = 78
  · rcases hcase with ⟨hh, hm, hall⟩ | ⟨r, t, rfl, hh, hk, hm, hall⟩
    · refine Or.inr ⟨_, _, _, stepGo_new_ok a78 hh, by simp [plainStep, a78, hm], agree_put_new h hx hall, hxc1, hall⟩
    · exact Or.inl ⟨stepGo_new_bad a78 hh, by simp [plainStep, a78, hm]⟩
  by_cases a67 : c.action = 67
  · rcases hcase with ⟨hh, hm, hall⟩ | ⟨r, t, rfl, hh, hk, hm, hall⟩
    · exact Or.inl ⟨stepGo_corr_no a67 hh, by simp [plainStep, a67, hm]⟩
    · cases he : r.eqB c.row with
      | true => exact Or.inl ⟨stepGo_corr_same a67 he, by simp [plainStep, a67, hm, he]⟩
      | false => exact Or.inr ⟨_, _, _, stepGo_corr_ok a67 hh he, by simp [plainStep, a67, hm, he], agree_put_old h hk, hxc1, hall⟩
  by_cases a87 : c.action = 87
  · rcases hcase with ⟨hh, hm, hall⟩ | ⟨r, t, rfl, hh, hk, hm, hall⟩
    · exact Or.inl ⟨stepGo_wd_no a87 hh, by simp [plainStep, a87, hm]⟩
    · cases he : r.eqB c.row with
      | true => exact Or.inr ⟨_, _, _, stepGo_wd_ok a87 hh he, by simp [plainStep, a87, hm, he], agree_del h hk, hxc, hall⟩
      | false => exact Or.inl ⟨stepGo_wd_other a87 he, by simp [plainStep, a87, hm, he]⟩
  · exact Or.inl ⟨stepGo_none a78 a67 a87, by simp [plainStep, a78, a67, a87]⟩

theorem go_agree : ∀ (cs : List Change) (m rest out : List Row) (prev : Option Row), Agree m (out ++ rest) → Between prev out rest → ordFrom prev cs = true →
    (applyGo prev rest out cs = none ∧ plainGo m cs = none) ∨ ∃ o m', applyGo prev rest out cs = some o ∧ plainGo m cs = some m' ∧ Agree m' o
  | [], m, rest, out, _, h, _, _ => Or.inr ⟨_, _, rfl, rfl, h⟩
  | c :: cs, m, rest, out, prev, h, hb, ho => by
    rw [ordFrom_cons] at ho
    simp only [Bool.and_eq_true, Bool.not_eq_true'] at ho
    rcases step_agree h hb ho.1 with ⟨h1, h2⟩ | ⟨out', rest', m', h1, h2, h3, h4⟩
    · refine Or.inl ⟨?_, ?_⟩
      · unfold applyGo; rw [ho.1, h1]; rfl
      · unfold plainGo; rw [h2]
    · have ih := go_agree cs m' rest' out' (some c.row) h3 h4 ho.2
      have e1 : applyGo prev rest out (c :: cs) = applyGo (some c.row) rest' out' cs := by
        rw [applyGo, ho.1, h1]; rfl
      have e2 : plainGo m (c :: cs) = plainGo m' cs := by rw [plainGo, h2]
      rw [e1, e2]
      exact ih

theorem mapOf_agree {rs : List Row} (h : Rise rs) : Agree (mapOf rs) rs := by
  have key : ∀ (l x m : List Row), Agree m x → Rise (x ++ l) → Agree (l.foldl mput m) (x ++ l) := by
    intro l
    induction l with
    | nil => intro x m h _; simpa using h
    | cons c l ih =>
      intro x m h hr
      obtain ⟨h1, h2, h3⟩ := rise_parts hr
      have := ih (x ++ [c]) (mput m c) (by
        have := agree_put_new (x := x) (y := []) (c := c) (m := m) (by simpa using h) (fun r hr => h3 r hr c (List.mem_cons_self ..)) (by simp)
        simpa using this) (by simpa using hr)
      simpa using this
  exact key rs [] [] ⟨List.Pairwise.nil, List.Pairwise.nil, rfl, fun _ _ => rfl⟩ h

/-- Apply does what plainApply does. -/
theorem apply_plain {rs : List Row} (cs : List Change) (h : Rise rs) :
    (applyF rs cs = none ∧ (plainGo (mapOf rs) cs = none ∨ ordB (cs.map (·.row)) = false)) ∨ ∃ o m, applyF rs cs = some o ∧ plainGo (mapOf rs) cs = some m ∧ ordB (cs.map (·.row)) = true ∧ Agree m o := by
  cases ho : ordB (cs.map (·.row)) with
  | false => exact Or.inl ⟨applyGo_unordered cs none rs [] ho, Or.inr rfl⟩
  | true =>
    rcases go_agree cs (mapOf rs) rs [] none (mapOf_agree h) rfl ho with ⟨h1, h2⟩ | ⟨o, m, h1, h2, h3⟩
    · exact Or.inl ⟨h1, Or.inl h2⟩
    · exact Or.inr ⟨o, m, h1, h2, rfl, h3⟩

/-! Differ and Reconcile. -/

theorem eqB_refl (a : Row) : a.eqB a = true := (Row.eqB_iff a a).2 rfl
theorem cmpK_refl (a : Row) : cmpK a a = 0 := cmpK_zero.2 ⟨rfl, rfl⟩

theorem pairs_self {α : Type} (g : Option Row × Option Row → List α) (hg : ∀ b, g (some b, some b) = []) : ∀ (l : List Row) (f : Nat), l.length + l.length ≤ f → flatL g (pairs f l l) = []
  | [], f, _ => by rw [pairs_nil]; rfl
  | b :: l, f, h => by
    rw [pairs_same f b b l l (by simp at h ⊢; omega) (cmpK_refl b)]
    simp only [flatL, hg, List.nil_append]
    exact pairs_self g hg l f (by simp at h ⊢; omega)

theorem differ_self (l : List Row) : differ l l = [] := pairs_self lineOf (fun b => by simp [lineOf, eqB_refl]) l _ (Nat.le_refl _)
theorem reconcile_self (l : List Row) : reconcile l l = [] := pairs_self diffOf (fun b => by simp [diffOf, eqB_refl]) l _ (Nat.le_refl _)

theorem skipTo_over (k : Row) : ∀ (pend tl out : List Row), (∀ r ∈ pend, keyLt r k) → (∀ r t, tl = r :: t → ¬ keyLt r k) → skipTo k out (pend ++ tl) = (out ++ pend, tl)
  | [], tl, out, _, h => by
    cases tl with
    | nil => simp [skipTo]
    | cons r t =>
      have : ¬ cmpK r k < 0 := by rw [cmpK_neg]; exact h r t rfl
      simp [skipTo, this]
  | r :: pend, tl, out, hp, h => by
    have : cmpK r k < 0 := cmpK_neg.2 (hp r (List.mem_cons_self ..))
    simp only [List.cons_append, skipTo, this, if_true]
    rw [skipTo_over k pend tl (out ++ [r]) (fun q hq => hp q (List.mem_cons_of_mem _ hq)) h]
    simp

/-- prev lies before every row of the list. -/
def Ahead (prev : Option Row) (l : List Row) : Prop := ∀ r ∈ l, prevBad prev r = false

theorem ahead_some {p : Row} {l : List Row} (h : ∀ r ∈ l, keyLt p r) : Ahead (some p) l := fun r hr => prevBad_false.2 (h r hr)
theorem ahead_tail {prev : Option Row} {r : Row} {l : List Row} (h : Ahead prev (r :: l)) : Ahead prev l := fun q hq => h q (List.mem_cons_of_mem _ hq)

theorem applyGo_step {prev : Option Row} {rest out out1 tl out' rest' : List Row} {c : Change} {cs : List Change} (hp : prevBad prev c.row = false) (hs : skipTo c.row out rest = (out1, tl)) (h : stepGo c out1 tl = some (out', rest')) :
    applyGo prev rest out (c :: cs) = applyGo (some c.row) rest' out' cs := by
  rw [applyGo, hp, hs, h]; rfl

theorem rise_mid {x y : List Row} {b : Row} (h : Rise (x ++ b :: y)) : (∀ r ∈ x, keyLt r b) ∧ (∀ r ∈ y, keyLt b r) ∧ Rise (x ++ y) ∧ Rise y := by
  obtain ⟨h1, h2, h3⟩ := rise_parts h
  have h2' := List.pairwise_cons.1 h2
  exact ⟨fun r hr => h3 r hr b (List.mem_cons_self ..), h2'.1, List.pairwise_append.2 ⟨h1, h2'.2, fun r hr q hq => h3 r hr q (List.mem_cons_of_mem _ hq)⟩, h2'.2⟩

theorem apply_differ_go : ∀ (f : Nat) (rest ts pend out : List Row) (prev : Option Row), rest.length + ts.length ≤ f → Rise (pend ++ rest) → Rise (pend ++ ts) → Ahead prev rest → Ahead prev ts →
    applyGo prev (pend ++ rest) out (flatL lineOf (pairs f rest ts)) = some (out ++ pend ++ ts)
  | f, [], [], pend, out, prev, _, _, _, _, _ => by rw [pairs_nil]; simp [flatL, applyGo]
  | 0, _ :: _, _, _, _, _, hf, _, _, _, _ => by simp at hf
  | 0, [], _ :: _, _, _, _, hf, _, _, _, _ => by simp at hf
  | f + 1, [], a :: ts, pend, out, prev, hf, h1, h2, a1, a2 => by
    obtain ⟨k1, k2, k3, k4⟩ := rise_mid h2
    rw [pairs_right _ _ _ (by simp at hf; omega)]
    simp only [flatL, lineOf, List.cons_append, List.nil_append]
    rw [applyGo_step (c := ⟨78, a⟩) (a2 a (List.mem_cons_self ..)) (skipTo_over a pend [] out k1 (by simp)) (stepGo_new_ok rfl rfl)]
    rw [← pairs_fuel f (f + 1) [] ts (by simp at hf ⊢; omega) (by simp at hf ⊢; omega)]
    have := apply_differ_go f [] ts [] (out ++ pend ++ [a]) (some a) (by simp at hf ⊢; omega) List.Pairwise.nil k4 (by intro r hr; simp at hr) (ahead_some k2)
    simpa using this
  | f + 1, b :: bs, [], pend, out, prev, hf, h1, h2, a1, a2 => by
    obtain ⟨k1, k2, k3, k4⟩ := rise_mid h1
    rw [pairs_left _ _ _ (by simp at hf; omega)]
    simp only [flatL, lineOf, List.cons_append, List.nil_append]
    rw [applyGo_step (c := ⟨87, b⟩) (a1 b (List.mem_cons_self ..)) (skipTo_over b pend (b :: bs) out k1 (fun r t e => by cases e; exact keyLt_irrefl)) (stepGo_wd_ok rfl (by simp [headIs, cmpK_refl]) (eqB_refl b))]
    rw [← pairs_fuel f (f + 1) bs [] (by simp at hf ⊢; omega) (by simp at hf ⊢; omega)]
    have := apply_differ_go f bs [] [] (out ++ pend) (some b) (by simp at hf ⊢; omega) k4 List.Pairwise.nil (ahead_some k2) (by intro r hr; simp at hr)
    simpa using this
  | f + 1, b :: bs, a :: ts, pend, out, prev, hf, h1, h2, a1, a2 => by
    obtain ⟨k1, k2, k3, k4⟩ := rise_mid h1
    obtain ⟨j1, j2, j3, j4⟩ := rise_mid h2
    have hfl : bs.length + ts.length + 1 ≤ f := by simp at hf; omega
    rcases cmpK_cases b a with hc | hc | hc
    · have hlt := cmpK_neg.1 (show cmpK b a < 0 by omega)
      rw [pairs_less _ _ _ _ _ (by simp at hf; omega) (by omega)]
      simp only [flatL, lineOf, List.cons_append, List.nil_append]
      rw [applyGo_step (c := ⟨87, b⟩) (a1 b (List.mem_cons_self ..)) (skipTo_over b pend (b :: bs) out k1 (fun r t e => by cases e; exact keyLt_irrefl)) (stepGo_wd_ok rfl (by simp [headIs, cmpK_refl]) (eqB_refl b))]
      rw [← pairs_fuel f (f + 1) bs (a :: ts) (by simp; omega) (by simp; omega)]
      have := apply_differ_go f bs (a :: ts) [] (out ++ pend) (some b) (by simp; omega) k4 (List.pairwise_cons.2 ⟨j2, j4⟩) (ahead_some k2) (ahead_some (fun r hr => by
        rcases List.mem_cons.1 hr with rfl | hr
        · exact hlt
        · exact keyLt_trans hlt (j2 r hr)))
      simpa using this
    · have hk := cmpK_zero.1 hc
      rw [pairs_same _ _ _ _ _ (by simp at hf; omega) hc]
      rw [← pairs_fuel f (f + 1) bs ts (by omega) (by omega)]
      cases he : a.eqB b with
      | true =>
        have hab := (Row.eqB_iff _ _).1 he
        subst hab
        simp only [flatL, lineOf, he, if_true, List.nil_append]
        have := apply_differ_go f bs ts (pend ++ [a]) out prev (by omega) (by simpa using h1) (by simpa using h2) (ahead_tail a1) (ahead_tail a2)
        simpa using this
      | false =>
        simp only [flatL, lineOf, he, List.cons_append, List.nil_append, Bool.false_eq_true, if_false]
        have hbe : b.eqB a = false := by rw [eqB_false] at he ⊢; exact fun e => he e.symm
        rw [applyGo_step (c := ⟨67, a⟩) (a2 a (List.mem_cons_self ..)) (skipTo_over a pend (b :: bs) out j1 (fun r t e => by cases e; unfold keyLt; omega)) (stepGo_corr_ok rfl (by simp [headIs, hc]) hbe)]
        have := apply_differ_go f bs ts [] (out ++ pend ++ [a]) (some a) (by omega) k4 j4 (ahead_some (fun r hr => by have := k2 r hr; unfold keyLt at this ⊢; omega)) (ahead_some j2)
        simpa using this
    · have hlt := cmpK_pos.1 (show 0 < cmpK b a by omega)
      rw [pairs_more _ _ _ _ _ (by simp at hf; omega) (by omega)]
      simp only [flatL, lineOf, List.cons_append, List.nil_append]
      rw [applyGo_step (c := ⟨78, a⟩) (a2 a (List.mem_cons_self ..)) (skipTo_over a pend (b :: bs) out j1 (fun r t e => by cases e; unfold keyLt at hlt ⊢; omega)) (stepGo_new_ok rfl (by simp [headIs]; omega))]
      rw [← pairs_fuel f (f + 1) (b :: bs) ts (by simp; omega) (by simp; omega)]
      have := apply_differ_go f (b :: bs) ts [] (out ++ pend ++ [a]) (some a) (by simp; omega) (List.pairwise_cons.2 ⟨k2, k4⟩) j4 (ahead_some (fun r hr => by
        rcases List.mem_cons.1 hr with rfl | hr
        · exact hlt
        · exact keyLt_trans hlt (k2 r hr))) (ahead_some j2)
      simpa using this

/-- The changes that Differ finds lead from the first list to the second. -/
theorem apply_differ {bs ts : List Row} (h1 : Rise bs) (h2 : Rise ts) : applyF bs (differ bs ts) = some ts := by
  have := apply_differ_go (bs.length + ts.length) bs ts [] [] none (Nat.le_refl _) h1 h2 (fun _ _ => rfl) (fun _ _ => rfl)
  simpa [applyF, differ, pairsOf] using this

/-- Each pair is what the two lists have at one key. -/
theorem pairs_look : ∀ (f : Nat) (bs ts : List Row), bs.length + ts.length ≤ f → Rise bs → Rise ts → ∀ x ∈ pairs f bs ts, ∃ s a, x = (mlook bs s a, mlook ts s a) ∧ ((∃ r ∈ bs, r.sample = s ∧ r.analyte = a) ∨ ∃ r ∈ ts, r.sample = s ∧ r.analyte = a)
  | f, [], [], _, _, _, x, hx => by rw [pairs_nil] at hx; simp at hx
  | 0, _ :: _, _, hf, _, _, _, _ => by simp at hf
  | 0, [], _ :: _, hf, _, _, _, _ => by simp at hf
  | f + 1, [], a :: ts, hf, h1, h2, x, hx => by
    have h2' := List.pairwise_cons.1 h2
    rw [pairs_right _ _ _ (by simp at hf; omega), ← pairs_fuel f (f + 1) [] ts (by simp at hf ⊢; omega) (by simp at hf ⊢; omega)] at hx
    rcases List.mem_cons.1 hx with rfl | hx
    · exact ⟨a.sample, a.analyte, by rw [mlook_self h2 (List.mem_cons_self ..)]; rfl, Or.inr ⟨a, List.mem_cons_self .., rfl, rfl⟩⟩
    · obtain ⟨s, t, e, hk⟩ := pairs_look f [] ts (by simp at hf ⊢; omega) h1 h2'.2 x hx
      rcases hk with ⟨r, hr, _⟩ | ⟨r, hr, k1, k2⟩
      · simp at hr
      · refine ⟨s, t, ?_, Or.inr ⟨r, List.mem_cons_of_mem _ hr, k1, k2⟩⟩
        rw [e, mlook_cons, atK_false.2 (by have := h2'.1 r hr; unfold keyLt at this; omega)]
        rfl
  | f + 1, b :: bs, [], hf, h1, h2, x, hx => by
    have h1' := List.pairwise_cons.1 h1
    rw [pairs_left _ _ _ (by simp at hf; omega), ← pairs_fuel f (f + 1) bs [] (by simp at hf ⊢; omega) (by simp at hf ⊢; omega)] at hx
    rcases List.mem_cons.1 hx with rfl | hx
    · exact ⟨b.sample, b.analyte, by rw [mlook_self h1 (List.mem_cons_self ..)]; rfl, Or.inl ⟨b, List.mem_cons_self .., rfl, rfl⟩⟩
    · obtain ⟨s, t, e, hk⟩ := pairs_look f bs [] (by simp at hf ⊢; omega) h1'.2 h2 x hx
      rcases hk with ⟨r, hr, k1, k2⟩ | ⟨r, hr, _⟩
      · refine ⟨s, t, ?_, Or.inl ⟨r, List.mem_cons_of_mem _ hr, k1, k2⟩⟩
        rw [e, mlook_cons, atK_false.2 (by have := h1'.1 r hr; unfold keyLt at this; omega)]
        rfl
      · simp at hr
  | f + 1, b :: bs, a :: ts, hf, h1, h2, x, hx => by
    have h1' := List.pairwise_cons.1 h1
    have h2' := List.pairwise_cons.1 h2
    have hfl : bs.length + ts.length + 1 ≤ f := by simp at hf; omega
    rcases cmpK_cases b a with hc | hc | hc
    · have hlt := cmpK_neg.1 (show cmpK b a < 0 by omega)
      have hall : ∀ r ∈ a :: ts, keyLt b r := fun r hr => by
        rcases List.mem_cons.1 hr with rfl | hr
        · exact hlt
        · exact keyLt_trans hlt (h2'.1 r hr)
      rw [pairs_less _ _ _ _ _ (by omega) (by omega), ← pairs_fuel f (f + 1) bs (a :: ts) (by simp; omega) (by simp; omega)] at hx
      rcases List.mem_cons.1 hx with rfl | hx
      · refine ⟨b.sample, b.analyte, ?_, Or.inl ⟨b, List.mem_cons_self .., rfl, rfl⟩⟩
        rw [mlook_self h1 (List.mem_cons_self ..), mlook_none (fun r hr => by have := hall r hr; unfold keyLt at this; omega)]
      · obtain ⟨s, t, e, hk⟩ := pairs_look f bs (a :: ts) (by simp; omega) h1'.2 h2 x hx
        have hne : ¬ (b.sample = s ∧ b.analyte = t) := by
          rcases hk with ⟨r, hr, k1, k2⟩ | ⟨r, hr, k1, k2⟩
          · have := h1'.1 r hr; unfold keyLt at this; omega
          · have := hall r hr; unfold keyLt at this; omega
        refine ⟨s, t, ?_, hk.imp (fun ⟨r, hr, k⟩ => ⟨r, List.mem_cons_of_mem _ hr, k⟩) id⟩
        rw [e, mlook_cons b, atK_false.2 hne]
        rfl
    · have hk0 := cmpK_zero.1 hc
      rw [pairs_same _ _ _ _ _ (by omega) hc, ← pairs_fuel f (f + 1) bs ts (by omega) (by omega)] at hx
      rcases List.mem_cons.1 hx with rfl | hx
      · refine ⟨b.sample, b.analyte, ?_, Or.inl ⟨b, List.mem_cons_self .., rfl, rfl⟩⟩
        rw [mlook_self h1 (List.mem_cons_self ..), hk0.1, hk0.2, mlook_self h2 (List.mem_cons_self ..)]
      · obtain ⟨s, t, e, hk⟩ := pairs_look f bs ts (by omega) h1'.2 h2'.2 x hx
        have hne : ¬ (b.sample = s ∧ b.analyte = t) := by
          rcases hk with ⟨r, hr, k1, k2⟩ | ⟨r, hr, k1, k2⟩
          · have := h1'.1 r hr; unfold keyLt at this; omega
          · have := h2'.1 r hr; unfold keyLt at this; omega
        refine ⟨s, t, ?_, hk.imp (fun ⟨r, hr, k⟩ => ⟨r, List.mem_cons_of_mem _ hr, k⟩) (fun ⟨r, hr, k⟩ => ⟨r, List.mem_cons_of_mem _ hr, k⟩)⟩
        rw [e, mlook_cons b, mlook_cons a, atK_false.2 hne, atK_false.2 (by omega)]
        rfl
    · have hlt := cmpK_pos.1 (show 0 < cmpK b a by omega)
      have hall : ∀ r ∈ b :: bs, keyLt a r := fun r hr => by
        rcases List.mem_cons.1 hr with rfl | hr
        · exact hlt
        · exact keyLt_trans hlt (h1'.1 r hr)
      rw [pairs_more _ _ _ _ _ (by omega) (by omega), ← pairs_fuel f (f + 1) (b :: bs) ts (by simp; omega) (by simp; omega)] at hx
      rcases List.mem_cons.1 hx with rfl | hx
      · refine ⟨a.sample, a.analyte, ?_, Or.inr ⟨a, List.mem_cons_self .., rfl, rfl⟩⟩
        rw [mlook_self h2 (List.mem_cons_self ..), mlook_none (fun r hr => by have := hall r hr; unfold keyLt at this; omega)]
      · obtain ⟨s, t, e, hk⟩ := pairs_look f (b :: bs) ts (by simp; omega) h1 h2'.2 x hx
        have hne : ¬ (a.sample = s ∧ a.analyte = t) := by
          rcases hk with ⟨r, hr, k1, k2⟩ | ⟨r, hr, k1, k2⟩
          · have := hall r hr; unfold keyLt at this; omega
          · have := h2'.1 r hr; unfold keyLt at this; omega
        refine ⟨s, t, ?_, hk.imp id (fun ⟨r, hr, k⟩ => ⟨r, List.mem_cons_of_mem _ hr, k⟩)⟩
        rw [e, mlook_cons a, atK_false.2 hne]
        rfl

/-- The version at a key, nought where there is none; as the law's loops find it. -/
def verOf (l : List Row) (s a : Int) : Int := ((mlook l s a).map (·.version)).getD 0
def verGo (s a : Int) (acc : Int) (l : List Row) : Int := l.foldl (fun v r => if atK s a r then r.version else v) acc

theorem verGo_none (s a acc : Int) {l : List Row} (h : mlook l s a = none) : verGo s a acc l = acc := by
  induction l generalizing acc with
  | nil => rfl
  | cons r l ih =>
    rw [mlook_cons] at h
    cases hk : atK s a r with
    | true => rw [hk] at h; simp at h
    | false =>
      rw [hk] at h
      simp only [verGo, List.foldl_cons, hk, Bool.false_eq_true, if_false]
      exact ih acc h

theorem verGo_eq {l : List Row} (h : Rise l) (s a acc : Int) : verGo s a acc l = ((mlook l s a).map (·.version)).getD acc := by
  induction l generalizing acc with
  | nil => rfl
  | cons r l ih =>
    have h' := List.pairwise_cons.1 h
    rw [mlook_cons]
    cases hk : atK s a r with
    | true =>
      have hk' := atK_true.1 hk
      simp only [verGo, List.foldl_cons, hk, if_true, Option.map_some, Option.getD_some]
      exact verGo_none s a r.version (mlook_none (fun q hq => by have := h'.1 q hq; unfold keyLt at this; omega))
    | false =>
      simp only [verGo, List.foldl_cons, hk, Bool.false_eq_true, if_false]
      exact ih h'.2 acc

/-- A line of the report beside a line of the file. -/
structure Match (bs ts : List Row) (d : Diff) (c : Change) : Prop where
  action : d.action = c.action
  sample : d.sample = c.row.sample
  analyte : d.analyte = c.row.analyte
  before : d.before = verOf bs d.sample d.analyte
  after : d.after = verOf ts d.sample d.analyte

theorem flat_match {R : Diff → Change → Prop} : ∀ (l : List (Option Row × Option Row)), (∀ x ∈ l, (diffOf x = [] ∧ lineOf x = []) ∨ ∃ d c, diffOf x = [d] ∧ lineOf x = [c] ∧ R d c) →
    (flatL diffOf l).length = (flatL lineOf l).length ∧ ∀ n (h : n < (flatL diffOf l).length) (h' : n < (flatL lineOf l).length), R (flatL diffOf l)[n] (flatL lineOf l)[n]
  | [], _ => ⟨rfl, fun n h => by simp [flatL] at h⟩
  | x :: l, hx => by
    obtain ⟨ih1, ih2⟩ := flat_match l (fun y hy => hx y (List.mem_cons_of_mem _ hy))
    rcases hx x (List.mem_cons_self ..) with ⟨e1, e2⟩ | ⟨d, c, e1, e2, hr⟩
    · simp only [flatL, e1, e2, List.nil_append]
      exact ⟨ih1, ih2⟩
    · simp only [flatL, e1, e2, List.cons_append, List.nil_append, List.length_cons]
      refine ⟨by omega, fun n h h' => ?_⟩
      cases n with
      | zero => exact hr
      | succ n => exact ih2 n (by omega) (by omega)

/-- Reconcile lists the same keys with the same actions and the versions of both sides. -/
theorem reconcile_match {bs ts : List Row} (h1 : Rise bs) (h2 : Rise ts) : (reconcile bs ts).length = (differ bs ts).length ∧ ∀ n (h : n < (reconcile bs ts).length) (h' : n < (differ bs ts).length), Match bs ts (reconcile bs ts)[n] (differ bs ts)[n] := by
  refine flat_match _ fun x hx => ?_
  obtain ⟨s, a, rfl, hk⟩ := pairs_look _ bs ts (Nat.le_refl _) h1 h2 x hx
  cases hb : mlook bs s a with
  | none =>
    cases ht : mlook ts s a with
    | none => exact Or.inl ⟨rfl, rfl⟩
    | some t =>
      obtain ⟨_, rfl, rfl⟩ := mlook_mem ht
      exact Or.inr ⟨_, _, rfl, rfl, rfl, rfl, rfl, by simp [verOf, hb], by simp [verOf, ht]⟩
  | some b =>
    obtain ⟨_, rfl, rfl⟩ := mlook_mem hb
    cases ht : mlook ts b.sample b.analyte with
    | none => exact Or.inr ⟨_, _, rfl, rfl, rfl, rfl, rfl, by simp [verOf, hb], by simp [verOf, ht]⟩
    | some t =>
      obtain ⟨_, k1, k2⟩ := mlook_mem ht
      cases he : t.eqB b with
      | true => exact Or.inl ⟨by simp [diffOf, he], by simp [lineOf, he]⟩
      | false => exact Or.inr ⟨_, _, by simp only [diffOf, he]; rfl, by simp only [lineOf, he]; rfl, rfl, rfl, rfl, by simp [verOf, k1, k2, hb], by simp [verOf, k1, k2, ht]⟩

end Go.Proofs.Qxb6500666aGreatDoor
