/- What the model's parser guesses; a rendering is guessed rightly. Plain. -/
import Derived.Test.Qxb6500666aGreatDoorMSpl
import Derived.Test.Qxb6500666aGreatDoorXParse
namespace Go.Proofs.Qxb6500666aGreatDoor
open Go.RowKit

/-- What guess makes of a field. -/
def GNum (p : List Int) (x : Int) : Prop := I64 x ∧ (p = dec x ∨ (¬ IsNum p ∧ x = 0))
theorem digs_inj {a b : Nat} (h : digs a = digs b) : a = b := by
  have h1 := negVal_digs a
  have h2 := negVal_digs b
  rw [h] at h1
  omega
theorem dec_inj {x y : Int} (h : dec x = dec y) : x = y := by
  have no : ∀ (m n : Nat), 45 :: digs m ≠ digs n := fun m n e => by
    have h0 := digs_range n 45 (by rw [← e]; exact List.mem_cons_self ..)
    omega
  unfold dec at h
  by_cases hx : x < 0
  · rw [if_pos hx] at h
    by_cases hy : y < 0
    · rw [if_pos hy] at h
      injection h with _ h
      have := digs_inj h
      omega
    · rw [if_neg hy] at h
      exact absurd h (no _ _)
  · rw [if_neg hx] at h
    by_cases hy : y < 0
    · rw [if_pos hy] at h
      exact absurd h.symm (no _ _)
    · rw [if_neg hy] at h
      have := digs_inj h
      omega
theorem gnum_of {x y : Int} (h : GNum (dec y) x) (hy : I64 y) : x = y := by
  rcases h.2 with h1 | ⟨h1, -⟩
  · exact (dec_inj h1).symm
  · exact absurd ⟨y, hy, rfl⟩ h1
theorem gnum_id {x y : Int} (h : GNum (dec y) x) (hy : U32 y) : x % 4294967296 = y := by
  have h1 := hy.1
  have h2 := hy.2
  rw [gnum_of h ⟨by omega, by omega⟩]
  omega
/-- The guessed header. -/
def HeadG (ps : List (List Int)) (k s i bb : Int) : Prop := ∃ p0 p1 p2 p3 p4 p5 x2 x4, ps = [p0, p1, p2, p3, p4, p5] ∧ k = ltrV p1 ∧ GNum p2 x2 ∧ s = x2 % 4294967296 ∧ GNum p3 i ∧ GNum p4 x4 ∧ bb = x4 % 4294967296
/-- A guessed line. -/
structure RowG (ps : List (List Int)) (r : Row) : Prop where
  sample : ∃ p x, ps[0]? = some p ∧ GNum p x ∧ r.sample = x % 4294967296
  analyte : ∃ p x, ps[1]? = some p ∧ GNum p x ∧ r.analyte = x % 4294967296
  version : ∃ p x, ps[2]? = some p ∧ GNum p x ∧ r.version = x % 4294967296
  value : ∃ p, ps[3]? = some p ∧ GNum p r.value
  subject : ∃ p x, ps[4]? = some p ∧ GNum p x ∧ r.subject = x % 4294967296
  site : ∃ p x, ps[5]? = some p ∧ GNum p x ∧ r.site = x % 4294967296
  visit : ∃ p x, ps[6]? = some p ∧ GNum p x ∧ r.visit = x % 4294967296
  proto : ∃ p x, ps[7]? = some p ∧ GNum p x ∧ r.proto = x % 4294967296
  kit : ∃ p x, ps[8]? = some p ∧ GNum p x ∧ r.kit = x % 4294967296
  cls : ∃ p x, ps[9]? = some p ∧ GNum p x ∧ r.cls = x % 256
  collected : ∃ p, ps[10]? = some p ∧ GNum p r.collected
  received : ∃ p, ps[11]? = some p ∧ GNum p r.received
  tested : ∃ p, ps[12]? = some p ∧ GNum p r.tested
def LineG (ps : List (List Int)) (c : Change) : Prop := ∃ p0 r, ps = p0 :: r ∧ r.length = 13 ∧ c.action = ltrV p0 ∧ RowG r c.row
theorem RowG.parts {r q : Row} (h : RowG (rowParts q) r) (hq : q.Ok) : r = q := by
  have key : ∀ {p : List Int} {y x : Int}, some (dec y) = some p → GNum p x → U32 y → x % 4294967296 = y := fun e hg hy => by
    injection e with e
    subst e
    exact gnum_id hg hy
  have key2 : ∀ {p : List Int} {y x : Int}, some (dec y) = some p → GNum p x → I64 y → x = y := fun e hg hy => by
    injection e with e
    subst e
    exact gnum_of hg hy
  have key3 : ∀ {p : List Int} {y x : Int}, some (dec y) = some p → GNum p x → U8 y → x % 256 = y := fun e hg hy => by
    have h1 := hy.1
    have h2 := hy.2
    rw [key2 e hg ⟨by omega, by omega⟩]
    omega
  obtain ⟨⟨p0, x0, a0, b0, c0⟩, ⟨p1, x1, a1, b1, c1⟩, ⟨p2, x2, a2, b2, c2⟩, ⟨p3, a3, b3⟩, ⟨p4, x4, a4, b4, c4⟩, ⟨p5, x5, a5, b5, c5⟩, ⟨p6, x6, a6, b6, c6⟩, ⟨p7, x7, a7, b7, c7⟩, ⟨p8, x8, a8, b8, c8⟩, ⟨p9, x9, a9, b9, c9⟩, ⟨pa, aa, ba⟩, ⟨pb, ab, bb⟩, ⟨pc, ac, bc⟩⟩ := h
  have e0 := key a0 b0 hq.sample
  have e1 := key a1 b1 hq.analyte
  have e2 := key a2 b2 hq.version
  have e3 := key2 a3 b3 hq.value
  have e4 := key a4 b4 hq.subject
  have e5 := key a5 b5 hq.site
  have e6 := key a6 b6 hq.visit
  have e7 := key a7 b7 hq.proto
  have e8 := key a8 b8 hq.kit
  have e9 := key3 a9 b9 hq.cls
  have ea := key2 aa ba hq.collected
  have eb := key2 ab bb hq.received
  have ec := key2 ac bc hq.tested
  obtain ⟨r0, r1, r2, r3, r4, r5, r6, r7, r8, r9, ra, rb, rc⟩ := r
  obtain ⟨q0, q1, q2, q3, q4, q5, q6, q7, q8, q9, qa, qb, qc⟩ := q
  simp only [Row.mk.injEq]
  exact ⟨c0.trans e0, c1.trans e1, c2.trans e2, e3, c4.trans e4, c5.trans e5, c6.trans e6, c7.trans e7, c8.trans e8, c9.trans e9, ea, eb, ec⟩
theorem split_tail : ∀ {ps : List (List Int)} {p : List Int}, (∀ q ∈ p :: ps, ∀ x ∈ q, x ≠ 124) → splitB 124 (p ++ tailT ps) = p :: ps
  | [], p, h => by
    show splitB 124 (p ++ []) = _
    rw [List.append_nil, splitB_none (h p (List.mem_cons_self ..))]
  | q :: r, p, h => by
    show splitB 124 (p ++ 124 :: (q ++ tailT r)) = _
    rw [splitB_at (h p (List.mem_cons_self ..)), split_tail (p := q) (fun y hy => h y (List.mem_cons_of_mem _ hy))]
theorem split_lines {f : Change → List Int} {rest : List Int} : ∀ {cs : List Change}, (∀ c ∈ cs, rowText c = f c ++ [10] ∧ ∀ x ∈ f c, x ≠ 10) → splitB 10 (linesText cs ++ rest) = cs.map f ++ splitB 10 rest
  | [], _ => rfl
  | c :: r, h => by
    have h1 := h c (List.mem_cons_self ..)
    show splitB 10 ((rowText c ++ linesText r) ++ rest) = _
    rw [h1.1, List.append_assoc, List.append_assoc]
    show splitB 10 (f c ++ 10 :: (linesText r ++ rest)) = _
    rw [splitB_at h1.2, split_lines (fun x hx => h x (List.mem_cons_of_mem _ hx))]
    rfl
/-- The guess at a whole text. -/
structure FileG (bs : List Int) (k s i bb : Int) (cs : List Change) : Prop where
  three : 3 ≤ (splitB 10 bs).length
  head : ∃ l0, (splitB 10 bs)[0]? = some l0 ∧ HeadG (splitB 124 l0) k s i bb
  len : cs.length + 3 = (splitB 10 bs).length
  line : ∀ j (h : j < cs.length), ∃ l, (splitB 10 bs)[j + 1]? = some l ∧ LineG (splitB 124 l) cs[j]
def rowL (c : Change) : List Int := [c.action] ++ tailT (rowParts c.row)
def headL (k s i b n : Int) : List Int := [72] ++ tailT (headParts k s i b n)
def trailL (bs : List Int) (n : Int) : List Int := [84] ++ fld n ++ fld (crc bs)
theorem tail_no {p : List Int} {ps : List (List Int)} (h : ∀ q ∈ p :: ps, PartOk q) : ∀ x ∈ p ++ tailT ps, x ≠ 10 := fun x hx => by
  rcases List.mem_append.1 hx with hx | hx
  · exact ((h p (List.mem_cons_self ..)).2 x hx).2
  · exact tailT_nonl ps (fun q hq => h q (List.mem_cons_of_mem _ hq)) x hx
/-- The lines of a rendering. -/
theorem text_lines {k s i b : Int} {cs : List Change} (hF : FileOk k s i b cs) : splitB 10 (fileText k s i b cs) = headL k s i b cs.length :: (cs.map rowL ++ [trailL (bodyText k s i b cs) cs.length, []]) := by
  have h1 : fileText k s i b cs = headL k s i b cs.length ++ 10 :: (linesText cs ++ (trailL (bodyText k s i b cs) cs.length ++ 10 :: [])) := by
    unfold fileText trailText trailL headL
    rw [bodyText, headText_parts]
    simp
  rw [h1, splitB_at (a := headL k s i b cs.length) (tail_no (headParts_ok hF.1)), split_lines (f := rowL) (fun c hc => ?_), splitB_at (a := trailL (bodyText k s i b cs) cs.length) (fun x hx => ?_)]
  · rfl
  · intro e
    subst e
    unfold trailL fld at hx
    simp only [List.mem_append, List.mem_cons, List.not_mem_nil, or_false] at hx
    rcases hx with (hx | hx | hx) | hx | hx
    · omega
    · omega
    · have := dec_range _ _ hx; omega
    · omega
    · have := dec_range _ _ hx; omega
  · obtain ⟨q, hq, rfl⟩ := List.getElem_of_mem hc
    exact ⟨rowText_parts _, tail_no (rowParts_ok (hF.2.2.2 q hq).1)⟩
theorem head_fields {k s i b n : Int} (hk : KindOk k) : splitB 124 (headL k s i b n) = [72] :: headParts k s i b n := split_tail (fun q hq x hx => ((headParts_ok hk q hq).2 x hx).1)
theorem row_fields {k : Int} {c : Change} (hk : ActOk k c.action) : splitB 124 (rowL c) = [c.action] :: rowParts c.row := split_tail (fun q hq x hx => ((rowParts_ok hk q hq).2 x hx).1)
/-- What the shape of a rendering is. -/
theorem text_shape {bs : List Int} {k s i b : Int} {cs : List Change} (h : bs = fileText k s i b cs) (hF : FileOk k s i b cs) : 3 ≤ (splitB 10 bs).length ∧ (∀ l0, (splitB 10 bs)[0]? = some l0 → (splitB 124 l0).length = 6) ∧ ∀ j l, j + 3 < (splitB 10 bs).length → (splitB 10 bs)[j + 1]? = some l → (splitB 124 l).length = 14 := by
  subst h
  rw [text_lines hF]
  refine ⟨by simp, fun l0 h0 => ?_, fun j l hj hl => ?_⟩
  · simp at h0
    rw [← h0, head_fields hF.1]
    rfl
  · simp at hj
    have hjc : j < cs.length := by omega
    rw [List.getElem?_cons_succ, List.getElem?_append_left (by simpa using hjc), List.getElem?_map, List.getElem?_eq_getElem hjc] at hl
    simp at hl
    rw [← hl, row_fields (hF.2.2.2 j hjc).1]
    rfl
/-- A rendering is guessed rightly. -/
theorem FileG.right {bs : List Int} {k s i bb k' s' i' b' : Int} {cs cs' : List Change} (h : FileG bs k s i bb cs) (he : bs = fileText k' s' i' b' cs') (hF : FileOk k' s' i' b' cs') (hs : U32 s') (hi : I64 i') (hb : U32 b') (hc : ∀ c ∈ cs', c.Ok) : k = k' ∧ s = s' ∧ i = i' ∧ bb = b' ∧ cs = cs' := by
  subst he
  obtain ⟨h3, ⟨l0, hl0, hH⟩, hlen, hline⟩ := h
  rw [text_lines hF] at hl0 hlen hline
  simp only [List.getElem?_cons_zero, Option.some.injEq] at hl0
  subst hl0
  rw [head_fields hF.1] at hH
  obtain ⟨p0, p1, p2, p3, p4, p5, x2, x4, e, e1, g2, e2, g3, g4, e4⟩ := hH
  simp only [headParts, List.cons.injEq] at e
  obtain ⟨-, q1, q2, q3, q4, -, -⟩ := e
  subst q1 q2 q3 q4
  have hcl : cs.length = cs'.length := by simp at hlen; omega
  refine ⟨e1, by rw [e2]; exact gnum_id g2 hs, gnum_of g3 hi, by rw [e4]; exact gnum_id g4 hb, ?_⟩
  refine List.ext_getElem hcl (fun j h1 h2 => ?_)
  obtain ⟨l, hl, hg⟩ := hline j h1
  rw [List.getElem?_cons_succ, List.getElem?_append_left (by simpa using h2), List.getElem?_map, List.getElem?_eq_getElem h2] at hl
  simp only [Option.map_some, Option.some.injEq] at hl
  rw [← hl, row_fields (hF.2.2.2 j h2).1] at hg
  obtain ⟨p, r, e, -, ea, hr⟩ := hg
  injection e with e5 e6
  subst e5 e6
  have hrow := hr.parts (hc _ (List.getElem_mem h2)).row
  have hact : cs[j].action = cs'[j].action := ea
  generalize cs[j] = c at *
  generalize cs'[j] = c' at *
  cases c
  cases c'
  simp only [Change.mk.injEq]
  exact ⟨hact, hrow⟩
theorem splitB_plen {sep : Int} : ∀ {l : List Int} {p : List Int}, p ∈ splitB sep l → p.length ≤ l.length
  | [], p, hp => by
    rw [List.mem_singleton.1 (show p ∈ [([] : List Int)] from hp)]
    exact Nat.le_refl _
  | y :: r, p, hp => by
    rw [splitB_cons] at hp
    split at hp
    · rcases List.mem_cons.1 hp with rfl | hp
      · simp
      · have := splitB_plen hp
        simp only [List.length_cons]
        omega
    · split at hp
      · rw [List.mem_singleton.1 hp]
        simp
      · rename_i q ps hq
        rcases List.mem_cons.1 hp with rfl | hp
        · have := splitB_plen (l := r) (p := q) (by rw [hq]; exact List.mem_cons_self ..)
          simp only [List.length_cons]
          omega
        · have := splitB_plen (l := r) (p := p) (by rw [hq]; exact List.mem_cons_of_mem _ hp)
          simp only [List.length_cons]
          omega
end Go.Proofs.Qxb6500666aGreatDoor
