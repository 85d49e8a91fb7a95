/- LedgerRefusesTamperedFiles: the forged files, and that none is taken. Plain. -/
import Derived.Test.Qxb6500666aGreatDoorLedV
import Derived.Test.Qxb6500666aGreatDoorTamF
import Derived.Test.Qxb6500666aGreatDoorCumP
namespace Go.Proofs.Qxb6500666aGreatDoor
open Go.RowKit

/-- The files forged out of one line. -/
def fgLine (f : File) (n : Nat) (c : Change) : List File :=
  if f.kind = 67 then [chAt f n (valC c), dropAt f n]
  else if c.action = 87 then [chAt f n (valC c), chAt f n (actC c 78)]
  else if c.action = 78 then [chAt f n (actC c 67), chAt f n (actC c 87)]
  else if c.action = 67 then [chAt f n (actC c 78), chAt f n (actC c 87)]
  else []
def fgN (f : File) (l : Int) : Nat → List File
  | 0 => [seqF f, baseF f, issF f l]
  | n + 1 => fgN f l n ++ (if h : n < f.changes.length then fgLine f n f.changes[n] else [])
theorem fgN_succ {f : File} {l : Int} {n : Nat} (h : n < f.changes.length) : fgN f l (n + 1) = fgN f l n ++ fgLine f n f.changes[n] := by
  show _ ++ (if h : n < f.changes.length then fgLine f n f.changes[n] else []) = _
  rw [dif_pos h]
theorem fgN_len (f : File) (l : Int) : ∀ n, (fgN f l n).length ≤ 3 + 2 * n
  | 0 => by simp [fgN]
  | n + 1 => by
    have := fgN_len f l n
    show (_ ++ (if h : n < f.changes.length then fgLine f n f.changes[n] else [])).length ≤ _
    rw [List.length_append]
    have h2 : (if h : n < f.changes.length then fgLine f n f.changes[n] else []).length ≤ 2 := by
      split
      · unfold fgLine
        repeat' split
        all_goals simp
      · simp
    omega

theorem plainGo_split (m : List Row) : ∀ (pre : List Change) (c : Change) (post : List Change), plainGo m (pre ++ c :: post) = match plainGo m pre with | none => none | some m1 => match plainStep m1 c with | none => none | some m2 => plainGo m2 post
  | [], c, post => rfl
  | d :: pre, c, post => by
    show (match plainStep m d with | none => none | some m' => plainGo m' (pre ++ c :: post)) = match (match plainStep m d with | none => none | some m' => plainGo m' pre) with | none => none | some m1 => match plainStep m1 c with | none => none | some m2 => plainGo m2 post
    cases plainStep m d with
    | none => rfl
    | some m' => exact plainGo_split m' pre c post
/-- A line that does not fit, in a place where another did. -/
theorem apply_other {rows o : List Row} {cs : List Change} {n : Nat} {c' : Change} (hr : Rise rows) (h : applyF rows cs = some o) (hn : n < cs.length) (hb : ∀ m1, plainStep m1 cs[n] ≠ none → plainStep m1 c' = none) : applyF rows (cs.set n c') = none := by
  rcases apply_plain cs hr with ⟨e, -⟩ | ⟨o', m, e, hg, -, -⟩
  · rw [h] at e; cases e
  have hs : cs = cs.take n ++ cs[n] :: cs.drop (n + 1) := by rw [← List.drop_eq_getElem_cons hn, List.take_append_drop]
  have hs' : cs.set n c' = cs.take n ++ c' :: cs.drop (n + 1) := by rw [List.set_eq_take_append_cons_drop, if_pos hn]
  have hg2 := hg
  rw [hs, plainGo_split] at hg2
  rcases apply_plain (cs.set n c') hr with ⟨e, -⟩ | ⟨o'', m', e, hg', -, -⟩
  · exact e
  · exfalso
    rw [hs', plainGo_split] at hg'
    cases h1 : plainGo (mapOf rows) (cs.take n) with
    | none => rw [h1] at hg'; cases hg'
    | some m1 =>
      rw [h1] at hg2 hg'
      dsimp only at hg2 hg'
      rw [hb m1 (fun e => by rw [e] at hg2; cases hg2)] at hg'
      cases hg'
theorem step_kinds {m : List Row} {c : Change} (h : plainStep m c ≠ none) : (c.action = 78 ∧ mlook m c.row.sample c.row.analyte = none) ∨ (c.action = 67 ∧ ∃ r, mlook m c.row.sample c.row.analyte = some r ∧ r ≠ c.row) ∨ (c.action = 87 ∧ mlook m c.row.sample c.row.analyte = some c.row) := by
  unfold plainStep at h
  cases hl : mlook m c.row.sample c.row.analyte with
  | none =>
    rw [hl] at h
    simp at h
    exact Or.inl ⟨h, rfl⟩
  | some r =>
    rw [hl] at h
    simp only [Option.isSome_some, Bool.not_true, Bool.and_false, Bool.and_true, Option.getD_some] at h
    by_cases e : r = c.row
    · subst e
      rw [eqB_refl] at h
      simp at h
      exact Or.inr (Or.inr ⟨h, rfl⟩)
    · rw [eqB_false.2 e] at h
      simp at h
      exact Or.inr (Or.inl ⟨h, r, rfl, e⟩)
theorem step_none {m : List Row} {c : Change} (h : ¬ ((c.action = 78 ∧ mlook m c.row.sample c.row.analyte = none) ∨ (c.action = 67 ∧ ∃ r, mlook m c.row.sample c.row.analyte = some r ∧ r ≠ c.row) ∨ (c.action = 87 ∧ mlook m c.row.sample c.row.analyte = some c.row))) : plainStep m c = none := by
  cases hp : plainStep m c with
  | none => rfl
  | some m' => exact absurd (step_kinds (by rw [hp]; simp)) h

section
variable {ps : List KV} {fs : List File} {rows : List Row}
theorem FI.relRise (h : FI ps fs rows) : ∀ i, i ≤ fs.length → Rise (relAt fs i)
  | 0, _ => List.Pairwise.nil
  | i + 1, hi => by
    have h3 := h.relAt_succ (i := i) (by omega)
    have ih := h.relRise i (by omega)
    unfold relF at h3
    dsimp only at h3
    by_cases hk : fs[i].kind = 73
    · rw [if_pos hk] at h3
      exact (applyF_look ih h3).1
    · rw [if_neg hk] at h3
      injection h3 with h3
      rw [← h3]
      exact ih
theorem FI.ledIss (h : FI ps fs rows) (hl : fs.length ≤ 1000000) : ∀ i, i ≤ fs.length → 0 ≤ (ledAt fs i).issued ∧ (ledAt fs i).issued ≤ 157785119
  | 0, _ => by simp [ledAt]
  | i + 1, hi => by
    have h1 := h.nums hl (i := i) (by omega)
    have e : (ledAt fs (i + 1)).issued = fs[i].issued := by simp [ledAt, List.getElem?_eq_getElem (show i < fs.length by omega)]
    rw [e]
    exact ⟨h1.2.2.2.2.2.1, h1.2.2.2.2.2.2⟩
/-- No forged file is taken. -/
theorem FI.refuse (h : FI ps fs rows) (hl : fs.length ≤ 1000000) {k : Nat} (hk : k < fs.length) : ∀ n, n ≤ fs[k].changes.length → ∀ g ∈ fgN fs[k] (ledAt fs k).issued n, g ≠ fs[k] → takeR (ledAt fs k) g = none
  | 0, _, g, hg, hne => by
    obtain ⟨h1, h2⟩ := h.seq k hk
    simp only [fgN, List.mem_cons, List.not_mem_nil, or_false] at hg
    rcases hg with rfl | rfl | rfl
    · exact takeR_not (fun t => by
        have := t.1
        simp only [seqF, ledAt] at this
        omega)
    · exact takeR_not (fun t => by
        have := t.2.1
        apply hne
        simp only [baseF, ledAt] at this
        unfold baseF
        rw [this, ← h2])
    · exact takeR_not (fun t => by
        have := t.2.2
        simp only [issF] at this
        omega)
  | n + 1, hn, g, hg, hne => by
    rw [fgN_succ (by omega)] at hg
    rcases List.mem_append.1 hg with hg | hg
    · exact h.refuse hl hk n (by omega) g hg hne
    have hn : n < fs[k].changes.length := by omega
    have ht := h.take_ok hl hk
    have hT : Turn (ledAt fs k) fs[k] := by
      by_cases e : Turn (ledAt fs k) fs[k]
      · exact e
      · rw [takeR_not e] at ht; cases ht
    unfold fgLine at hg
    by_cases hc : fs[k].kind = 67
    · rw [if_pos hc] at hg
      rw [takeR_cum hT (by omega)] at ht
      have hrows : fs[k].changes.map (·.row) = (ledAt fs k).rows := by
        by_cases e : fs[k].changes.map (·.row) = (ledAt fs k).rows
        · exact e
        · rw [if_neg e] at ht; cases ht
      simp only [List.mem_cons, List.not_mem_nil, or_false] at hg
      rcases hg with rfl | rfl
      · rw [takeR_cum (f := chAt fs[k] n (valC fs[k].changes[n])) hT (by show fs[k].kind ≠ 73; omega), if_neg]
        intro e
        rw [← hrows] at e
        have e := congrArg (fun l => l[n]?) e
        simp only [chAt, List.getElem?_map, List.getElem?_set_self hn, List.getElem?_eq_getElem hn, Option.map_some, Option.some.injEq] at e
        exact xor1_ne fs[k].changes[n].row.value (congrArg Row.value e)
      · rw [takeR_cum (f := dropAt fs[k] n) hT (by show fs[k].kind ≠ 73; omega), if_neg]
        intro e
        rw [← hrows] at e
        have e := congrArg List.length e
        simp only [dropAt, List.length_map, List.length_eraseIdx, if_pos hn] at e
        omega
    · rw [if_neg hc] at hg
      have hc3 : fs[k].kind = 73 := (h.kind (List.getElem_mem hk)).resolve_left hc
      rw [takeR_inc hT hc3] at ht
      have hrise : Rise (ledAt fs k).rows := h.relRise k (by omega)
      obtain ⟨o, ho⟩ : ∃ o, applyF (ledAt fs k).rows fs[k].changes = some o := by
        cases e : applyF (ledAt fs k).rows fs[k].changes with
        | none => rw [e] at ht; cases ht
        | some o => exact ⟨o, rfl⟩
      have key : ∀ c', (∀ m1, plainStep m1 fs[k].changes[n] ≠ none → plainStep m1 c' = none) → takeR (ledAt fs k) (chAt fs[k] n c') = none := fun c' hb => by
        rw [takeR_inc (f := chAt fs[k] n c') hT hc3]
        show (applyF (ledAt fs k).rows (fs[k].changes.set n c')).map _ = none
        rw [apply_other hrise ho hn hb]
        rfl
      generalize fs[k].changes[n] = c at *
      by_cases a1 : c.action = 87
      · rw [if_pos a1] at hg
        simp only [List.mem_cons, List.not_mem_nil, or_false] at hg
        rcases hg with rfl | rfl
        · refine key _ (fun m1 q => step_none fun z => ?_)
          rcases step_kinds q with ⟨e, -⟩ | ⟨e, -⟩ | ⟨-, q3⟩
          · omega
          · omega
          · rcases z with ⟨z, -⟩ | ⟨z, -⟩ | ⟨-, z⟩
            · have z : c.action = 78 := z; omega
            · have z : c.action = 67 := z; omega
            · have z : mlook m1 c.row.sample c.row.analyte = some (valC c).row := z
              rw [q3] at z
              injection z with z
              exact xor1_ne c.row.value (congrArg Row.value z).symm
        · refine key _ (fun m1 q => step_none fun z => ?_)
          rcases step_kinds q with ⟨e, -⟩ | ⟨e, -⟩ | ⟨-, q3⟩
          · omega
          · omega
          · rcases z with ⟨-, z⟩ | ⟨z, -⟩ | ⟨z, -⟩
            · have z : mlook m1 c.row.sample c.row.analyte = none := z
              rw [q3] at z; cases z
            · have z : (78 : Int) = 67 := z; omega
            · have z : (78 : Int) = 87 := z; omega
      rw [if_neg a1] at hg
      by_cases a2 : c.action = 78
      · rw [if_pos a2] at hg
        simp only [List.mem_cons, List.not_mem_nil, or_false] at hg
        have hq : ∀ m1, plainStep m1 c ≠ none → mlook m1 c.row.sample c.row.analyte = none := fun m1 q => by
          rcases step_kinds q with ⟨-, e⟩ | ⟨e, -⟩ | ⟨e, -⟩
          · exact e
          · omega
          · omega
        rcases hg with rfl | rfl
        · refine key _ (fun m1 q => step_none fun z => ?_)
          rcases z with ⟨z, -⟩ | ⟨-, r, z, -⟩ | ⟨z, -⟩
          · have z : (67 : Int) = 78 := z; omega
          · have z : mlook m1 c.row.sample c.row.analyte = some r := z
            rw [hq m1 q] at z; cases z
          · have z : (67 : Int) = 87 := z; omega
        · refine key _ (fun m1 q => step_none fun z => ?_)
          rcases z with ⟨z, -⟩ | ⟨z, -⟩ | ⟨-, z⟩
          · have z : (87 : Int) = 78 := z; omega
          · have z : (87 : Int) = 67 := z; omega
          · have z : mlook m1 c.row.sample c.row.analyte = some c.row := z
            rw [hq m1 q] at z; cases z
      rw [if_neg a2] at hg
      by_cases a3 : c.action = 67
      · rw [if_pos a3] at hg
        simp only [List.mem_cons, List.not_mem_nil, or_false] at hg
        have hq : ∀ m1, plainStep m1 c ≠ none → ∃ r, mlook m1 c.row.sample c.row.analyte = some r ∧ r ≠ c.row := fun m1 q => by
          rcases step_kinds q with ⟨e, -⟩ | ⟨-, e⟩ | ⟨e, -⟩
          · omega
          · exact e
          · omega
        rcases hg with rfl | rfl
        · refine key _ (fun m1 q => step_none fun z => ?_)
          obtain ⟨r, q1, q2⟩ := hq m1 q
          rcases z with ⟨-, z⟩ | ⟨z, -⟩ | ⟨z, -⟩
          · have z : mlook m1 c.row.sample c.row.analyte = none := z
            rw [q1] at z; cases z
          · have z : (78 : Int) = 67 := z; omega
          · have z : (78 : Int) = 87 := z; omega
        · refine key _ (fun m1 q => step_none fun z => ?_)
          obtain ⟨r, q1, q2⟩ := hq m1 q
          rcases z with ⟨z, -⟩ | ⟨z, -⟩ | ⟨-, z⟩
          · have z : (87 : Int) = 78 := z; omega
          · have z : (87 : Int) = 67 := z; omega
          · have z : mlook m1 c.row.sample c.row.analyte = some c.row := z
            rw [q1] at z
            injection z with z
            exact q2 z
      · rw [if_neg a3] at hg
        cases hg
end
/-- What the walk asks of a forged file. -/
structure GK (g : File) : Prop where
  k : U8 g.kind
  s : U32 g.seq
  i : I64 g.issued
  b : U32 g.base
  c : ∀ c ∈ g.changes, c.Ok
  len : g.changes.length ≤ 65536
theorem fgN_gk {f : File} {l : Int} (hf : FK f) (hb : f.base < f.seq) (hs : f.seq ≤ 1000000000) (hl : I64 l) (hl2 : 0 ≤ l) : ∀ n, ∀ g ∈ fgN f l n, GK g
  | 0, g, hg => by
    simp only [fgN, List.mem_cons, List.not_mem_nil, or_false] at hg
    have h1 := hf.s
    have h2 := hf.b
    unfold U32 at h1 h2
    rcases hg with rfl | rfl | rfl
    · exact ⟨hf.k, ⟨by show 0 ≤ f.seq + 1; omega, by show f.seq + 1 ≤ _; omega⟩, hf.i, hf.b, hf.c, hf.len⟩
    · refine ⟨hf.k, hf.s, hf.i, ⟨?_, ?_⟩, hf.c, hf.len⟩
      · show 0 ≤ (f.base + 1) % f.seq
        exact Int.emod_nonneg _ (by omega)
      · show (f.base + 1) % f.seq ≤ _
        have := Int.emod_lt_of_pos (f.base + 1) (show 0 < f.seq by omega)
        omega
    · exact ⟨hf.k, hf.s, ⟨by show _ ≤ l - 1; omega, by show l - 1 ≤ _; have := hl.2; omega⟩, hf.b, hf.c, hf.len⟩
  | n + 1, g, hg => by
    by_cases hn : n < f.changes.length
    · rw [fgN_succ hn] at hg
      rcases List.mem_append.1 hg with hg | hg
      · exact fgN_gk hf hb hs hl hl2 n g hg
      have hcn := hf.c _ (List.getElem_mem hn)
      have hset : ∀ c', c'.Ok → GK (chAt f n c') := fun c' hc => ⟨hf.k, hf.s, hf.i, hf.b, fun x hx => by
        rcases List.mem_or_eq_of_mem_set hx with q | q
        · exact hf.c _ q
        · rw [q]; exact hc, by show (f.changes.set n c').length ≤ _; rw [List.length_set]; exact hf.len⟩
      have hv : (valC f.changes[n]).Ok := ⟨hcn.action, { hcn.row with value := xor1_in _ }⟩
      have ha : ∀ a, U8 a → (actC f.changes[n] a).Ok := fun a q => ⟨q, hcn.row⟩
      have u1 : U8 78 := ⟨by decide, by decide⟩
      have u2 : U8 67 := ⟨by decide, by decide⟩
      have u3 : U8 87 := ⟨by decide, by decide⟩
      unfold fgLine at hg
      repeat' split at hg
      all_goals simp only [List.mem_cons, List.not_mem_nil, or_false] at hg
      · rcases hg with rfl | rfl
        · exact hset _ hv
        · exact ⟨hf.k, hf.s, hf.i, hf.b, fun x hx => hf.c _ (List.mem_of_mem_eraseIdx hx), by
            show (f.changes.eraseIdx n).length ≤ _
            have := hf.len
            have := List.length_eraseIdx_le (l := f.changes) (i := n)
            omega⟩
      · rcases hg with rfl | rfl
        · exact hset _ hv
        · exact hset _ (ha _ u1)
      · rcases hg with rfl | rfl
        · exact hset _ (ha _ u2)
        · exact hset _ (ha _ u3)
      · rcases hg with rfl | rfl
        · exact hset _ (ha _ u1)
        · exact hset _ (ha _ u3)
    · have : fgN f l (n + 1) = fgN f l n := by
        show _ ++ (if h : n < f.changes.length then fgLine f n f.changes[n] else []) = _
        rw [dif_neg hn, List.append_nil]
      rw [this] at hg
      exact fgN_gk hf hb hs hl hl2 n g hg
end Go.Proofs.Qxb6500666aGreatDoor
