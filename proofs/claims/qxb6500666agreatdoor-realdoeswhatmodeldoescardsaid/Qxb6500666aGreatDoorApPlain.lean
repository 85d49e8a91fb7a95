/- Plain laws of Apply. (Made by tools/mk_applain.py out of t/PlainLaw and t/AdrParts.) -/
import Derived.Test.Qxb6500666aGreatDoorPlainApply
import Derived.Test.Qxb6500666aGreatDoorPlainDiffer
import Derived.Test.Qxb6500666aGreatDoorApplyWalk
namespace Go.Proofs.Qxb6500666aGreatDoor

def Rise (l : List Row) : Prop := l.Pairwise keyLt

theorem keyLt_trans {a b c : Row} (h : keyLt a b) (k : keyLt b c) : keyLt a c := by unfold keyLt at *; omega

theorem keyLt_irrefl {a : Row} : ¬ keyLt a a := by unfold keyLt; omega

theorem cmpK_neg {a b : Row} : cmpK a b < 0 ↔ keyLt a b := by
  unfold cmpK keyLt
  split
  · omega
  · split
    · omega
    · split
      · omega
      · split <;> omega

theorem cmpK_pos {a b : Row} : 0 < cmpK a b ↔ keyLt b a := by
  unfold cmpK keyLt
  split
  · omega
  · split
    · omega
    · split
      · omega
      · split <;> omega

theorem cmpK_zero {a b : Row} : cmpK a b = 0 ↔ a.sample = b.sample ∧ a.analyte = b.analyte := by
  unfold cmpK
  split
  · omega
  · split
    · omega
    · split
      · omega
      · split <;> omega

theorem skipTo_spec (k : Row) : ∀ (rest out : List Row), ∃ mid tl, rest = mid ++ tl ∧ skipTo k out rest = (out ++ mid, tl) ∧ (∀ r ∈ mid, keyLt r k) ∧ (∀ r t, tl = r :: t → ¬ keyLt r k)
  | [], out => ⟨[], [], rfl, by simp [skipTo], by simp, by simp⟩
  | r :: rest, out => by
    by_cases h : cmpK r k < 0
    · obtain ⟨mid, tl, h1, h2, h3, h4⟩ := skipTo_spec k rest (out ++ [r])
      refine ⟨r :: mid, tl, by rw [h1]; rfl, by simp [skipTo, h, h2], ?_, h4⟩
      intro x hx
      rcases List.mem_cons.1 hx with rfl | hx
      · exact cmpK_neg.1 h
      · exact h3 x hx
    · exact ⟨[], r :: rest, rfl, by simp [skipTo, h], by simp, fun r' t e => by cases e; rw [← cmpK_neg]; exact h⟩

theorem stepGo_cases {c : Change} {x tl o' r' : List Row} (h : stepGo c x tl = some (o', r')) : (o' = x ∨ o' = x ++ [c.row]) ∧ ∀ r ∈ r', r ∈ tl := by
  by_cases a78 : c.action = 78
  · cases hh : headIs c.row tl with
    | true => rw [stepGo_new_bad a78 hh] at h; cases h
    | false =>
      rw [stepGo_new_ok a78 hh] at h
      cases h
      exact ⟨Or.inr rfl, fun r hr => hr⟩
  by_cases a67 : c.action = 67
  · cases hh : headIs c.row tl with
    | false => rw [stepGo_corr_no a67 hh] at h; cases h
    | true =>
      cases tl with
      | nil => simp [headIs] at hh
      | cons r t =>
        cases he : r.eqB c.row with
        | true => rw [stepGo_corr_same a67 he] at h; cases h
        | false =>
          rw [stepGo_corr_ok a67 hh he] at h
          cases h
          exact ⟨Or.inr rfl, fun r hr => List.mem_cons_of_mem _ hr⟩
  by_cases a87 : c.action = 87
  · cases hh : headIs c.row tl with
    | false => rw [stepGo_wd_no a87 hh] at h; cases h
    | true =>
      cases tl with
      | nil => simp [headIs] at hh
      | cons r t =>
        cases he : r.eqB c.row with
        | false => rw [stepGo_wd_other a87 he] at h; cases h
        | true =>
          rw [stepGo_wd_ok a87 hh he] at h
          cases h
          exact ⟨Or.inl rfl, fun r hr => List.mem_cons_of_mem _ hr⟩
  · rw [stepGo_none a78 a67 a87] at h; cases h

theorem applyGo_ok {T : Row → Prop} : ∀ (cs : List Change) (prev : Option Row) (rest out o : List Row), (∀ r ∈ rest, T r) → (∀ r ∈ out, T r) → (∀ c ∈ cs, T c.row) → applyGo prev rest out cs = some o → ∀ r ∈ o, T r
  | [], _, rest, out, o, h1, h2, _, h => by
    simp only [applyGo, Option.some.injEq] at h
    subst h
    exact fun r hr => (List.mem_append.1 hr).elim (h2 r) (h1 r)
  | c :: cs, prev, rest, out, o, h1, h2, h3, h => by
    obtain ⟨mid, tl, rfl, hsk, _, _⟩ := skipTo_spec c.row rest out
    have hc := h3 c (List.mem_cons_self ..)
    have h3' := fun q hq => h3 q (List.mem_cons_of_mem _ hq)
    have hx : ∀ r ∈ out ++ mid, T r := fun r hr => (List.mem_append.1 hr).elim (h2 r) (fun hm => h1 r (List.mem_append.2 (Or.inl hm)))
    have ht : ∀ r ∈ tl, T r := fun r hr => h1 r (List.mem_append.2 (Or.inr hr))
    have hxc : ∀ r ∈ out ++ mid ++ [c.row], T r := fun r hr => (List.mem_append.1 hr).elim (hx r) (fun hm => by rw [List.mem_singleton] at hm; rw [hm]; exact hc)
    rw [applyGo, hsk] at h
    split at h
    · cases h
    · split at h
      · cases h
      · rename_i out' rest' hst
        obtain ⟨g1, g2⟩ := stepGo_cases hst
        refine applyGo_ok cs _ rest' out' o (fun r hr => ht r (g2 r hr)) ?_ h3' h
        rcases g1 with rfl | rfl
        · exact hx
        · exact hxc

theorem agree_len {rs : List Row} {cs : List Change} {o : List Row} (h : applyF rs cs = some o) : o.length ≤ rs.length + cs.length := by
  have key : ∀ (cs : List Change) (prev : Option Row) (rest out o : List Row), applyGo prev rest out cs = some o → o.length ≤ out.length + rest.length + cs.length := by
    intro cs
    induction cs with
    | nil => intro prev rest out o h; simp only [applyGo, Option.some.injEq] at h; subst h; simp
    | cons c cs ih =>
      intro prev rest out o h
      obtain ⟨mid, tl, rfl, hsk, _, _⟩ := skipTo_spec c.row rest out
      rw [applyGo, hsk] at h
      split at h
      · cases h
      · split at h
        · cases h
        · rename_i out' rest' hst
          have h1 := ih _ _ _ _ h
          have hl : out'.length + rest'.length ≤ (out ++ mid).length + tl.length + 1 := by
            by_cases a78 : c.action = 78
            · cases hh : headIs c.row tl with
              | true => rw [stepGo_new_bad a78 hh] at hst; cases hst
              | false => rw [stepGo_new_ok a78 hh] at hst; cases hst; simp; omega
            by_cases a67 : c.action = 67
            · cases hh : headIs c.row tl with
              | false => rw [stepGo_corr_no a67 hh] at hst; cases hst
              | true =>
                cases tl with
                | nil => simp [headIs] at hh
                | cons r t =>
                  cases he : r.eqB c.row with
                  | true => rw [stepGo_corr_same a67 he] at hst; cases hst
                  | false => rw [stepGo_corr_ok a67 hh he] at hst; cases hst; simp; omega
            by_cases a87 : c.action = 87
            · cases hh : headIs c.row tl with
              | false => rw [stepGo_wd_no a87 hh] at hst; cases hst
              | true =>
                cases tl with
                | nil => simp [headIs] at hh
                | cons r t =>
                  cases he : r.eqB c.row with
                  | false => rw [stepGo_wd_other a87 he] at hst; cases hst
                  | true => rw [stepGo_wd_ok a87 hh he] at hst; cases hst; simp; omega
            · rw [stepGo_none a78 a67 a87] at hst; cases hst
          simp only [List.length_append, List.length_cons] at h1 hl ⊢
          omega
  have := key cs none rs [] o h
  simpa using this

end Go.Proofs.Qxb6500666aGreatDoor
