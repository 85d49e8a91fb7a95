/- The holds: as the model lists them, and how many they are. -/
import Derived.Test.Qxb6500666aGreatDoorAssess
namespace Go.Proofs.Qxb6500666aGreatDoor
open Go.RowKit

/- The predicate of the model. -/
def wsum (l : List (Int × Bool)) : Int := l.foldl (fun h p => if p.2 then IntKind.u16.wrap (h + p.1) else h) 0
def holdB (b1 b2 b3 b4 b6 df b7 b8 b9 b10 : Bool) : Int :=
  let h5 := addH b6 32 (addH b4 8 (addH b3 4 (addH b2 2 (addH b1 1 0))))
  let h6 := if df then addH b8 128 (addH b7 64 h5) else bits .or .u16 h5 16
  addH b10 512 (addH b9 256 h6)
def holdM (b1 b2 b3 b4 b6 df b7 b8 b9 b10 : Bool) : List (Int × Bool) := [(1, b1), (2, b2), (4, b3), (8, b4), (16, ! df), (32, b6), (64, df && b7), (128, df && b8), (256, b9), (512, b10)]
def tf : List Bool := [false, true]
theorem tf_mem (b : Bool) : b ∈ tf := by cases b <;> simp [tf]
def holdChk : Bool := tf.all fun b1 => tf.all fun b2 => tf.all fun b3 => tf.all fun b4 => tf.all fun b6 => tf.all fun df => tf.all fun b7 => tf.all fun b8 => tf.all fun b9 => tf.all fun b10 => (holdB b1 b2 b3 b4 b6 df b7 b8 b9 b10 == wsum (holdM b1 b2 b3 b4 b6 df b7 b8 b9 b10)) && (decide (0 ≤ holdB b1 b2 b3 b4 b6 df b7 b8 b9 b10) && decide (holdB b1 b2 b3 b4 b6 df b7 b8 b9 b10 < 1024))
set_option maxRecDepth 100000 in
theorem holdChk_ok : holdChk = true := by kernel_rfl
theorem hold_sum (b1 b2 b3 b4 b6 df b7 b8 b9 b10 : Bool) : holdB b1 b2 b3 b4 b6 df b7 b8 b9 b10 = wsum (holdM b1 b2 b3 b4 b6 df b7 b8 b9 b10) ∧ 0 ≤ holdB b1 b2 b3 b4 b6 df b7 b8 b9 b10 ∧ holdB b1 b2 b3 b4 b6 df b7 b8 b9 b10 < 1024 := by
  have h := holdChk_ok
  unfold holdChk at h
  have g := fun {p : Bool → Bool} (hh : tf.all p = true) (b : Bool) => List.all_eq_true.1 hh b (tf_mem b)
  have h := g (g (g (g (g (g (g (g (g (g h b1) b2) b3) b4) b6) df) b7) b8) b9) b10
  simp only [Bool.and_eq_true, beq_iff_eq, decide_eq_true_eq] at h
  exact h
/-- The reasons as the model lists them. -/
def holdsM (L : Low) (s : Smp) (r : Res) : List (Int × Bool) :=
  holdM r.wd (! (sbjGet L.pr.sub s.subject).isSome) (! (kitGet L.kit s.kit).isSome || ! (sbjGet L.pr.sub s.subject).isSome || (kitD L.kit s.kit).site != siteV L.pr.sub s.subject)
    (! hasVisit L.pr.ver (inForce L.pr.ver s.collected) s.visit) (decide (s.received < s.collected) || decide (r.tested < s.received)) (limGet L.pr.ana r.analyte s.cls).isSome
    (decide ((limGet L.pr.ana r.analyte s.cls).getD 0 < s.received - s.collected)) (decide ((limGet L.pr.ana r.analyte s.cls).getD 0 < r.tested - s.collected)) s.exc (unsettledB L.sm.qs s.id)
theorem holds_eq (L : Low) (s : Smp) (r : Res) : holdsOf L s r = wsum (holdsM L s r) ∧ 0 ≤ holdsOf L s r ∧ holdsOf L s r < 1024 := by
  have h := hold_sum r.wd (! (sbjGet L.pr.sub s.subject).isSome) (! (kitGet L.kit s.kit).isSome || ! (sbjGet L.pr.sub s.subject).isSome || (kitD L.kit s.kit).site != siteV L.pr.sub s.subject)
    (! hasVisit L.pr.ver (inForce L.pr.ver s.collected) s.visit) (decide (s.received < s.collected) || decide (r.tested < s.received)) (limGet L.pr.ana r.analyte s.cls).isSome
    (decide ((limGet L.pr.ana r.analyte s.cls).getD 0 < s.received - s.collected)) (decide ((limGet L.pr.ana r.analyte s.cls).getD 0 < r.tested - s.collected)) s.exc (unsettledB L.sm.qs s.id)
  have e : holdsOf L s r = holdB r.wd (! (sbjGet L.pr.sub s.subject).isSome) (! (kitGet L.kit s.kit).isSome || ! (sbjGet L.pr.sub s.subject).isSome || (kitD L.kit s.kit).site != siteV L.pr.sub s.subject)
    (! hasVisit L.pr.ver (inForce L.pr.ver s.collected) s.visit) (decide (s.received < s.collected) || decide (r.tested < s.received)) (limGet L.pr.ana r.analyte s.cls).isSome
    (decide ((limGet L.pr.ana r.analyte s.cls).getD 0 < s.received - s.collected)) (decide ((limGet L.pr.ana r.analyte s.cls).getD 0 < r.tested - s.collected)) s.exc (unsettledB L.sm.qs s.id) := by
    unfold holdsOf holdB
    cases limGet L.pr.ana r.analyte s.cls <;> rfl
  rw [e]
  exact h

/- How many reasons. -/
def holdN : List Int := [1, 2, 4, 8, 16, 32, 64, 128, 256, 512]
def cntH (h : Int) : Nat := holdN.countP fun k => bits .and .u16 h k != 0
def clr (b : Int) : Int := bits .and .u16 b (b - 1)
def itc : Nat → Int → Int
  | 0, h => h
  | i + 1, h => clr (itc i h)
def cntChk : Bool := (List.range 1024).all fun n => (itc (cntH (n : Int)) (n : Int) == 0) && (List.range (cntH (n : Int))).all fun i => decide (0 < itc i (n : Int)) && decide (itc i (n : Int) < 1024)
set_option maxRecDepth 100000 in
theorem cntChk_ok : cntChk = true := by kernel_rfl
theorem cnt_itc {h : Int} (h0 : 0 ≤ h) (h1 : h < 1024) : itc (cntH h) h = 0 ∧ ∀ i, i < cntH h → 0 < itc i h ∧ itc i h < 1024 := by
  have hc := cntChk_ok
  unfold cntChk at hc
  have hc := List.all_eq_true.1 hc h.toNat (List.mem_range.2 (by omega))
  rw [show ((h.toNat : Nat) : Int) = h by omega] at hc
  simp only [Bool.and_eq_true, beq_iff_eq, List.all_eq_true, List.mem_range, decide_eq_true_eq] at hc
  exact hc

end Go.Proofs.Qxb6500666aGreatDoor
