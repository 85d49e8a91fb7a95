/- What the model's report parser guesses; a rendering is guessed rightly. Plain. -/
import Derived.Test.Qxb6500666aGreatDoorMParP
import Derived.Test.Qxb6500666aGreatDoorXRep
import Derived.Test.Qxb6500666aGreatDoorMRen
namespace Go.Proofs.Qxb6500666aGreatDoor
open Go.RowKit

theorem split_flat {α : Type} {g f : α → List Int} {rest : List Int} : ∀ {cs : List α}, (∀ c ∈ cs, g c = f c ++ [10] ∧ ∀ x ∈ f c, x ≠ 10) → splitB 10 (flatL g cs ++ rest) = cs.map f ++ splitB 10 rest
  | [], _ => rfl
  | c :: r, h => by
    have h1 := h c (List.mem_cons_self ..)
    show splitB 10 ((g c ++ flatL g r) ++ rest) = _
    rw [h1.1, List.append_assoc, List.append_assoc]
    show splitB 10 (f c ++ 10 :: (flatL g r ++ rest)) = _
    rw [splitB_at h1.2, split_flat (fun x hx => h x (List.mem_cons_of_mem _ hx))]
    rfl
theorem trailL_no (bs : List Int) (n : Int) : ∀ x ∈ trailL bs n, x ≠ 10 := fun x hx e => by
  subst e
  unfold trailL fld at hx
  simp only [List.mem_append, List.mem_cons, List.not_mem_nil, or_false] at hx
  rcases hx with (hx | hx | hx) | hx | hx
  · omega
  · omega
  · have := dec_range _ _ hx; omega
  · omega
  · have := dec_range _ _ hx; omega
def rhL (ea la n : Int) : List Int := [72] ++ tailT (rhParts ea la n)
def difL (d : Diff) : List Int := [d.action] ++ tailT (difParts d)
theorem rep_vd {ea la : Int} {ds : List Diff} (h : rpC ea la ds = 0) : ea < la ∧ rpB none ds = true ∧ ∀ d ∈ ds, vdB d = true := by
  unfold rpC at h
  split at h
  · omega
  · rename_i h1
    split at h
    · rename_i h2
      simp at h1
      exact ⟨h1, h2, rpB_vd h2⟩
    · omega
theorem rep_lines {ea la : Int} {ds : List Diff} (h : rpC ea la ds = 0) : splitB 10 (repText ea la ds) = rhL ea la ds.length :: (ds.map difL ++ [trailL (repBody ea la ds) ds.length, []]) := by
  have hv := (rep_vd h).2.2
  have h1 : repText ea la ds = rhL ea la ds.length ++ 10 :: (flatL repLine ds ++ (trailL (repBody ea la ds) ds.length ++ 10 :: [])) := by
    unfold repText trailText trailL rhL repBody
    rw [repHead_parts]
    simp
  rw [h1, splitB_at (a := rhL ea la ds.length) (tail_no (rhParts_ok _ _ _)), split_flat (f := difL) (fun d hd => ⟨repLine_parts d, tail_no (difParts_ok (hv d hd))⟩), splitB_at (a := trailL (repBody ea la ds) ds.length) (trailL_no _ _)]
  rfl
theorem rhead_fields (ea la n : Int) : splitB 124 (rhL ea la n) = [72] :: rhParts ea la n := split_tail (fun q hq x hx => ((rhParts_ok ea la n q hq).2 x hx).1)
theorem dif_fields {d : Diff} (h : vdB d = true) : splitB 124 (difL d) = [d.action] :: difParts d := split_tail (fun q hq x hx => ((difParts_ok h q hq).2 x hx).1)
/-- The guessed header of a report. -/
def RHeadG (ps : List (List Int)) (ea la : Int) : Prop := ∃ p0 p1 p2 p3 p4 x2 x3, ps = [p0, p1, p2, p3, p4] ∧ GNum p2 x2 ∧ ea = x2 % 4294967296 ∧ GNum p3 x3 ∧ la = x3 % 4294967296
/-- A guessed difference. -/
def DifG (ps : List (List Int)) (d : Diff) : Prop := ∃ p0 p1 p2 p3 p4 x1 x2 x3 x4, ps = [p0, p1, p2, p3, p4] ∧ d = ⟨ltrV p0, x1 % 4294967296, x2 % 4294967296, x3 % 4294967296, x4 % 4294967296⟩ ∧ GNum p1 x1 ∧ GNum p2 x2 ∧ GNum p3 x3 ∧ GNum p4 x4
/-- The guess at a whole report. -/
structure RepG (bs : List Int) (ea la : Int) (ds : List Diff) : Prop where
  three : 3 ≤ (splitB 10 bs).length
  head : ∃ l0, (splitB 10 bs)[0]? = some l0 ∧ RHeadG (splitB 124 l0) ea la
  len : ds.length + 3 = (splitB 10 bs).length
  line : ∀ j (h : j < ds.length), ∃ l, (splitB 10 bs)[j + 1]? = some l ∧ DifG (splitB 124 l) ds[j]
theorem rep_shape {bs : List Int} {ea la : Int} {ds : List Diff} (h : bs = repText ea la ds) (hF : rpC ea la ds = 0) : 3 ≤ (splitB 10 bs).length ∧ (∀ l0, (splitB 10 bs)[0]? = some l0 → (splitB 124 l0).length = 5) ∧ ∀ j l, j + 3 < (splitB 10 bs).length → (splitB 10 bs)[j + 1]? = some l → (splitB 124 l).length = 5 := by
  subst h
  rw [rep_lines hF]
  refine ⟨by simp, fun l0 h0 => ?_, fun j l hj hl => ?_⟩
  · simp at h0
    rw [← h0, rhead_fields]
    rfl
  · simp at hj
    have hjc : j < ds.length := by omega
    rw [List.getElem?_cons_succ, List.getElem?_append_left (by simpa using hjc), List.getElem?_map, List.getElem?_eq_getElem hjc] at hl
    simp at hl
    rw [← hl, dif_fields ((rep_vd hF).2.2 _ (List.getElem_mem hjc))]
    rfl
theorem RepG.right {bs : List Int} {ea la ea' la' : Int} {ds ds' : List Diff} (h : RepG bs ea la ds) (he : bs = repText ea' la' ds') (hF : rpC ea' la' ds' = 0) (h1 : U32 ea') (h2 : U32 la') (hc : ∀ d ∈ ds', d.Ok) : ea = ea' ∧ la = la' ∧ ds = ds' := by
  subst he
  obtain ⟨h3, ⟨l0, hl0, hH⟩, hlen, hline⟩ := h
  rw [rep_lines hF] at hl0 hlen hline
  simp only [List.getElem?_cons_zero, Option.some.injEq] at hl0
  subst hl0
  rw [rhead_fields] at hH
  obtain ⟨p0, p1, p2, p3, p4, x2, x3, e, g2, e2, g3, e3⟩ := hH
  simp only [rhParts, List.cons.injEq] at e
  obtain ⟨-, -, q2, q3, -, -⟩ := e
  subst q2 q3
  have hcl : ds.length = ds'.length := by simp at hlen; omega
  refine ⟨by rw [e2]; exact gnum_id g2 h1, by rw [e3]; exact gnum_id g3 h2, ?_⟩
  refine List.ext_getElem hcl (fun j k1 k2 => ?_)
  obtain ⟨l, hl, hg⟩ := hline j k1
  rw [List.getElem?_cons_succ, List.getElem?_append_left (by simpa using k2), List.getElem?_map, List.getElem?_eq_getElem k2] at hl
  simp only [Option.map_some, Option.some.injEq] at hl
  rw [← hl, dif_fields ((rep_vd hF).2.2 _ (List.getElem_mem k2))] at hg
  have ho := hc _ (List.getElem_mem k2)
  generalize ds[j] = d at *
  generalize ds'[j] = d' at *
  obtain ⟨p0, p1, p2, p3, p4, x1, x2, x3, x4, e, ed, g1, g2, g3, g4⟩ := hg
  simp only [difParts, List.cons.injEq, and_true] at e
  obtain ⟨q0, q1, q2, q3, q4⟩ := e
  subst q0 q1 q2 q3 q4
  rw [ed, gnum_id g1 ho.sample, gnum_id g2 ho.analyte, gnum_id g3 ho.before, gnum_id g4 ho.after]
  rfl
theorem rep_bytes {ea la : Int} {ds : List Diff} (h : rpC ea la ds = 0) : ByteL (repBody ea la ds) := by
  have hv := (rep_vd h).2.2
  have h10 : ByteL [10] := fun d hd => by rw [List.mem_singleton.1 hd]; omega
  have h72 : ByteL [72] := fun d hd => by rw [List.mem_singleton.1 hd]; omega
  have hk : ByteL [124, 88] := fun d hd => by
    simp only [List.mem_cons, List.not_mem_nil, or_false] at hd
    omega
  have key : ∀ ds : List Diff, (∀ c ∈ ds, 0 ≤ c.action ∧ c.action ≤ 255) → ByteL (flatL repLine ds) := by
    intro ds
    induction ds with
    | nil => intro _ d hd; cases hd
    | cons c r ih =>
      intro hc
      have ha := hc c (List.mem_cons_self ..)
      have h1 : ByteL [c.action] := fun d hd => by rw [List.mem_singleton.1 hd]; exact ha
      show ByteL (repLine c ++ flatL repLine r)
      refine ByteL.app ?_ (ih (fun x hx => hc x (List.mem_cons_of_mem _ hx)))
      unfold repLine
      exact ((((h1.app (fld_bytes _)).app (fld_bytes _)).app (fld_bytes _)).app (fld_bytes _)).app h10
  unfold repBody repHead
  refine ByteL.app (((((h72.app hk).app (fld_bytes _)).app (fld_bytes _)).app (fld_bytes _)).app h10) (key ds (fun c hc => ?_))
  rcases vdB_act (hv c hc) with e | e | e <;> omega
end Go.Proofs.Qxb6500666aGreatDoor
