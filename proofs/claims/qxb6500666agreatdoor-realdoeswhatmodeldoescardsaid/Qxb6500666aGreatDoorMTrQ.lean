/- The text of a trail, plain: as the model puts it together. -/
import Derived.Test.Qxb6500666aGreatDoorMTrP
namespace Go.Proofs.Qxb6500666aGreatDoor
open Go.RowKit
theorem strOfNums_strB (s : ByteArray) : s = strOfNums (strB s) := by
  apply ByteArray.ext
  unfold strOfNums strB
  simp [List.map_map, Function.comp_def]
/-- A line up to the limits. -/
def ln16 (rn kn : Nat → ByteArray) (x : Ent) : List Int := [69] ++ fld x.seq ++ (124 :: strB (nmOf rn 6 x.role)) ++ fld x.issued ++ (124 :: strB (nmOf kn 30 x.req.kind)) ++ fld x.req.user ++ fld x.req.now ++ fld x.req.id ++ fld x.req.ref ++ fld x.req.kit ++ fld x.req.subject ++ fld x.req.visit ++ fld x.req.role ++ fld x.req.cls ++ fld x.req.time ++ fld x.req.till ++ fld x.req.value
theorem trLine_ln (rn kn : Nat → ByteArray) (x : Ent) : trLine rn kn x = ln16 rn kn x ++ lmT x.req 3 ++ (124 :: lsp x.req.list) ++ [10] := by
  unfold trLine ln16
  rw [lstText_lsp]
  simp [lmT]
theorem lsp_one (x : Int) : lsp [x] = dec x := by
  unfold lsp
  rw [if_neg (by simp)]
  have := lstT_C x []
  simp only [List.nil_append] at this
  rw [this]
  rfl
theorem lsp_snoc {l : List Int} (h : l ≠ []) (x : Int) : lsp (l ++ [x]) = lsp l ++ (44 :: dec x) := by
  obtain ⟨l', y, rfl⟩ : ∃ l' y, l = l' ++ [y] := ⟨l.dropLast, l.getLast h, (List.dropLast_concat_getLast h).symm⟩
  unfold lsp
  rw [if_neg (by simp), if_neg (by simp), lstT_C, lstT_C, lstC_snoc]
  simp
theorem tr_bytes {rn kn : Nat → ByteArray} {xs : List Ent} {n : Int} : ByteL (trHead n ++ flatL (trLine rn kn) xs) := by
  have h10 : ByteL [10] := fun d hd => by rw [List.mem_singleton.1 hd]; omega
  have h72 : ByteL [72] := fun d hd => by rw [List.mem_singleton.1 hd]; omega
  have h69 : ByteL [69] := fun d hd => by rw [List.mem_singleton.1 hd]; omega
  have h65 : ByteL [124, 65] := fun d hd => by
    simp only [List.mem_cons, List.not_mem_nil, or_false] at hd
    omega
  have hs : ∀ s : ByteArray, ByteL (124 :: strB s) := fun s d hd => by
    rcases List.mem_cons.1 hd with h | h
    · omega
    · exact strB_bytes s d h
  have hl : ∀ l : List Int, ByteL (124 :: lsp l) := fun l d hd => by
    rcases List.mem_cons.1 hd with h | h
    · omega
    · by_cases e : l = []
      · subst e
        rw [List.mem_singleton.1 (show d ∈ [(45 : Int)] from h)]
        omega
      · obtain ⟨l', y, rfl⟩ : ∃ l' y, l = l' ++ [y] := ⟨l.dropLast, l.getLast e, (List.dropLast_concat_getLast e).symm⟩
        unfold lsp at h
        rw [if_neg (by simp), lstT_C] at h
        rcases List.mem_append.1 h with h | h
        · have := lstC_range l' d h; omega
        · have := dec_range y d h; omega
  have key : ∀ ds : List Ent, ByteL (flatL (trLine rn kn) ds) := by
    intro ds
    induction ds with
    | nil => intro d hd; cases hd
    | cons c r ih =>
      show ByteL (trLine rn kn c ++ flatL (trLine rn kn) r)
      refine ByteL.app ?_ ih
      rw [trLine_ln]
      unfold ln16 lmT
      have f := fld_bytes
      exact (((((((((((((((((((h69.app (f _)).app (hs _)).app (f _)).app (hs _)).app (f _)).app (f _)).app (f _)).app (f _)).app (f _)).app (f _)).app (f _)).app (f _)).app (f _)).app (f _)).app (f _)).app (f _)).app (((f _).app (f _)).app (f _))).app (hl _)).app h10)
  unfold trHead
  exact (((h72.app h65).app (fld_bytes _)).app h10).app (key xs)
end Go.Proofs.Qxb6500666aGreatDoor
