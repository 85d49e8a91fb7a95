/- IssuedFilesParseToModelRows: the plain part. -/
import Derived.Test.Qxb6500666aGreatDoorIsrP
import Derived.Test.Qxb6500666aGreatDoorDamQ
import Derived.Test.Qxb6500666aGreatDoorXAll
namespace Go.Proofs.Qxb6500666aGreatDoor
open Go.RowKit
/-- The last line of a file, without its newline. -/
noncomputable def trlI (k s i b : Int) (cs : List Change) : List Int := [84] ++ fld cs.length ++ fld (crc (bodyText k s i b cs))
theorem fileText_split (k s i b : Int) (cs : List Change) : fileText k s i b cs = bodyText k s i b cs ++ (trlI k s i b cs ++ [10]) := by
  unfold fileText trailText trlI
  simp [List.append_assoc]
theorem fld_ne (x : Int) : ∀ c ∈ fld x, c ≠ 10 := fun c hc => by
  unfold fld at hc
  rcases List.mem_cons.1 hc with rfl | hc
  · decide
  · have := dec_range x c hc
    omega
theorem trlI_ne (k s i b : Int) (cs : List Change) : ∀ c ∈ trlI k s i b cs, c ≠ 10 := fun c hc => by
  unfold trlI at hc
  simp only [List.mem_append, List.mem_singleton] at hc
  rcases hc with (rfl | hc) | hc
  · decide
  · exact fld_ne _ c hc
  · exact fld_ne _ c hc
theorem rowText_last (c : Change) : ∃ p, rowText c = p ++ [10] := ⟨_, rfl⟩
theorem body_last (k s i b : Int) (cs : List Change) : ∃ p, bodyText k s i b cs = p ++ [10] := by
  unfold bodyText linesText
  rcases List.eq_nil_or_concat cs with rfl | ⟨l, x, rfl⟩
  · exact ⟨_, (List.append_nil _)⟩
  · obtain ⟨p, hp⟩ := rowText_last x
    rw [List.concat_eq_append, flatL_snoc, hp]
    exact ⟨headText k s i b (l ++ [x]).length ++ (flatL rowText l ++ p), by simp [List.append_assoc]⟩
/-- Where the last line begins. -/
theorem last_at (k s i b : Int) (cs : List Change) : 0 < (bodyText k s i b cs).length ∧ (fileText k s i b cs).length = (bodyText k s i b cs).length + (trlI k s i b cs).length + 1 ∧ (fileText k s i b cs)[(bodyText k s i b cs).length - 1]? = some 10 ∧ ∀ r, r < (trlI k s i b cs).length → ∃ c, (fileText k s i b cs)[(bodyText k s i b cs).length + r]? = some c ∧ c ≠ 10 := by
  obtain ⟨p, hp⟩ := body_last k s i b cs
  rw [fileText_split]
  refine ⟨by rw [hp]; simp, by simp only [List.length_append, List.length_singleton]; omega, ?_, fun r hr => ⟨(trlI k s i b cs)[r], ?_, trlI_ne k s i b cs _ (List.getElem_mem hr)⟩⟩
  · rw [hp]
    simp
  · rw [List.getElem?_append_right (by omega), Nat.add_sub_cancel_left, List.getElem?_append_left hr, List.getElem?_eq_getElem hr]
/-- The last line as the law writes it. -/
theorem trl_text (k s i b : Int) (cs : List Change) : [84, 124] ++ dec cs.length ++ [124] ++ dec (crc (bodyText k s i b cs)) ++ [10] = trlI k s i b cs ++ [10] := by
  unfold trlI fld
  simp [List.append_assoc]
theorem take_body (k s i b : Int) (cs : List Change) : (fileText k s i b cs).take (bodyText k s i b cs).length = bodyText k s i b cs := by
  rw [fileText_split, List.take_left]
theorem drop_body (k s i b : Int) (cs : List Change) : (fileText k s i b cs).drop (bodyText k s i b cs).length = trlI k s i b cs ++ [10] := by
  rw [fileText_split, List.drop_left]
/-- The operation that opens the system anew. -/
def reOp : Op := ⟨3, zeroReq, 0, 0, 0, [], ⟨0, 0, 0, 0, []⟩⟩
def reCs : Array Value := opA reOp (.slice none 0 0) (.slice none 0 0) none 0 0
theorem reOp_step (t : ST) : stepR t reOp = t := by
  unfold stepR
  rw [if_neg (by decide), if_neg (by decide)]
theorem reOp_in (w : World) (ok : Nat → Prop) : OpIn w ok reOp (.slice none 0 0) (.slice none 0 0) none 0 0 :=
  ⟨⟨by decide, by decide⟩, zeroReq_ok, ⟨by decide, by decide⟩, ⟨by decide, by decide⟩, ⟨by decide, by decide⟩, RArr.nil _ _ _ _, (fun _ h => by cases h), RArr.nil _ _ _ _, RArr.nil _ _ _ _, (by constructor <;> exact ⟨by decide, by decide⟩), (fun _ h => by cases h), Nat.zero_le _, Nat.zero_le _⟩
/-- The first part and the last part of a text. -/
theorem DataAt.pre {w : World} {b off n cap : Nat} {data : List Int} (h : DataAt w b off n cap data) {q : Nat} (hq : q ≤ n) : BytesAt w (fun _ => True) (.slice (some ⟨b, off, none⟩) q cap) (data.take q) := by
  have hl : (data.take q).length = q := by rw [List.length_take, h.len]; omega
  have h1 := h.cap
  have h2 := h.le
  have h3 := h.len
  have := bytesAt_val (w := w) (b := b) (o := off) (l := q) (c := cap) (p := data.take q) ⟨by rw [hl], by rw [hl]; show q ≤ cap; omega, h.cap.2, fun t ht => by
    rw [List.getElem_take]
    exact h.cell t (by omega)⟩ (by rw [hl]; omega)
  rw [hl] at this
  exact this
theorem DataAt.post {w : World} {b off n cap : Nat} {data : List Int} (h : DataAt w b off n cap data) {q : Nat} (hq : q < n) : BytesAt w (fun _ => True) (.slice (some ⟨b, off + q, none⟩) (n - q) (cap - q)) (data.drop q) := by
  have hl : (data.drop q).length = n - q := by rw [List.length_drop, h.len]
  have h1 := h.cap
  have h2 := h.le
  have h3 := h.len
  have := bytesAt_val (w := w) (b := b) (o := off + q) (l := n - q) (c := cap - q) (p := data.drop q) ⟨by rw [hl], by rw [hl]; show n - q ≤ cap - q; omega, by show cap - q ≤ maxLen; omega, fun t ht => by
    rw [List.getElem_drop, Nat.add_assoc]
    exact h.cell (q + t) (by omega)⟩ (by rw [hl]; omega)
  rw [hl] at this
  exact this
end Go.Proofs.Qxb6500666aGreatDoor
