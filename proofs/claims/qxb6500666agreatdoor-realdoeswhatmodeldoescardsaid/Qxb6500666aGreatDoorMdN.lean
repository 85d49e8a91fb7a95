/- The model's change: every kind. -/
import Derived.Test.Qxb6500666aGreatDoorMdK1
import Derived.Test.Qxb6500666aGreatDoorMdK2
import Derived.Test.Qxb6500666aGreatDoorMdK3
import Derived.Test.Qxb6500666aGreatDoorMdK4
import Derived.Test.Qxb6500666aGreatDoorMdK6
namespace Go.Proofs.Qxb6500666aGreatDoor
open Go.RowKit
/-- What a command does to the model. -/
def mChange (m : Mod) (r : Req) : CR3 :=
  if r.kind = 1 then addU m r
  else if r.kind = 2 then revU m r
  else if r.kind = 3 then ⟨{ m with low := { m.low with pr := (defineP m.low.pr r.id r.l0 r.l1 r.l2).1 } }, 0, (defineP m.low.pr r.id r.l0 r.l1 r.l2).2⟩
  else if r.kind = 4 then ⟨{ m with low := { m.low with pr := (amendP m.low.pr r.time r.list).1 } }, 0, (amendP m.low.pr r.time r.list).2⟩
  else if r.kind = 5 then ⟨{ m with low := { m.low with pr := (addSiteP m.low.pr r.id).1 } }, 0, (addSiteP m.low.pr r.id).2⟩
  else if r.kind = 6 then ⟨{ m with low := { m.low with pr := (enrolP m.low.pr r.id r.ref).1 } }, 0, (enrolP m.low.pr r.id r.ref).2⟩
  else if r.kind = 7 then ⟨{ m with low := { m.low with kit := (buildP m.low.kit r.id).1 } }, 0, (buildP m.low.kit r.id).2⟩
  else if r.kind = 8 then (if m.low.pr.site.any (fun x : Int => (x == r.ref)) = true then ⟨{ m with low := { m.low with kit := (shipP m.low.kit r.id r.ref).1 } }, 0, (shipP m.low.kit r.id r.ref).2⟩ else ⟨m, 0, 18⟩)
  else if r.kind = 9 then ⟨{ m with low := { m.low with sm := (accession m.low.sm ⟨r.id, r.kit, r.subject, r.visit, r.cls, r.time, r.till, false⟩).1 } }, 0, (accession m.low.sm ⟨r.id, r.kit, r.subject, r.visit, r.cls, r.time, r.till, false⟩).2⟩
  else if r.kind = 10 then ⟨{ m with low := { m.low with sm := (excursion m.low.sm r.id).1 } }, 0, (excursion m.low.sm r.id).2⟩
  else if r.kind = 11 then ⟨{ m with low := { m.low with sm := (collection m.low.sm r.id r.time).1 } }, 0, (collection m.low.sm r.id r.time).2⟩
  else if r.kind = 12 then ⟨{ m with low := { m.low with sm := (enterR m.low.sm r.id r.ref r.value r.time).1 } }, 0, (enterR m.low.sm r.id r.ref r.value r.time).2⟩
  else if r.kind = 13 then ⟨{ m with low := { m.low with sm := (correctR m.low.sm r.id r.ref r.value).1 } }, 0, (correctR m.low.sm r.id r.ref r.value).2⟩
  else if r.kind = 14 then ⟨{ m with low := { m.low with sm := (withdrawR m.low.sm r.id r.ref).1 } }, 0, (withdrawR m.low.sm r.id r.ref).2⟩
  else if r.kind = 15 then ⟨{ m with low := { m.low with sm := (raiseQ m.low.sm r.id r.ref).1 } }, 0, (raiseQ m.low.sm r.id r.ref).2⟩
  else if r.kind = 16 then ⟨{ m with low := { m.low with sm := (moveQ m.low.sm r.id 1 2).1 } }, 0, (moveQ m.low.sm r.id 1 2).2⟩
  else if r.kind = 17 then ⟨{ m with low := { m.low with sm := (moveQ m.low.sm r.id 2 3).1 } }, 0, (moveQ m.low.sm r.id 2 3).2⟩
  else if r.kind = 18 then ⟨{ m with low := { m.low with sm := (moveQ m.low.sm r.id 2 1).1 } }, 0, (moveQ m.low.sm r.id 2 1).2⟩
  else if r.kind = 19 then incM m r
  else cumM m r
theorem kindCmd {k : Int} (h : isCmd k = true) : k = 1 ∨ k = 2 ∨ k = 3 ∨ k = 4 ∨ k = 5 ∨ k = 6 ∨ k = 7 ∨ k = 8 ∨ k = 9 ∨ k = 10 ∨ k = 11 ∨ k = 12 ∨ k = 13 ∨ k = 14 ∨ k = 15 ∨ k = 16 ∨ k = 17 ∨ k = 18 ∨ k = 19 ∨ k = 20 := by
  unfold isCmd at h
  simp at h
  omega
theorem mch_calls (w : World) (M : Nat) (ok okv : Nat → Prop) (v : MV) (m : Mod) (r : Req) (lv : Value) (h : ChX w M ok okv v m r lv) (hk : isCmd r.kind = true) :
    Calls Tryz.prog 146 #[.pointer (some ⟨M, 0, none⟩), .agg (reqA r lv)] w fun e w' => ChP w w' M ok e (mChange m r) := by
  rcases kindCmd hk with e | e | e | e | e | e | e | e | e | e | e | e | e | e | e | e | e | e | e | e
  · rw [show mChange m r = addU m r from if_pos e]; exact mch1_calls w M ok okv v m r lv h e
  · rw [show mChange m r = revU m r by unfold mChange; rw [if_neg (by omega), if_pos e]]; exact mch2_calls w M ok okv v m r lv h e
  · have := mch3_calls w M ok okv v m r lv h e
    unfold mChange; rw [e]; exact this
  · have := mch4_calls w M ok okv v m r lv h e
    unfold mChange; rw [e]; exact this
  · have := mch5_calls w M ok okv v m r lv h e
    unfold mChange; rw [e]; exact this
  · have := mch6_calls w M ok okv v m r lv h e
    unfold mChange; rw [e]; exact this
  · have := mch7_calls w M ok okv v m r lv h e
    unfold mChange; rw [e]; exact this
  · cases hst : m.low.pr.site.any (fun x : Int => (x == r.ref)) with
    | true =>
      have := mch8_calls w M ok okv v m r lv h e hst
      unfold mChange; rw [e, hst]; exact this
    | false =>
      have := mch8n_calls w M ok okv v m r lv h e hst
      unfold mChange; rw [e, hst]; exact this
  · have := mch9_calls w M ok okv v m r lv h e
    unfold mChange; rw [e]; exact this
  · have := mch10_calls w M ok okv v m r lv h e
    unfold mChange; rw [e]; exact this
  · have := mch11_calls w M ok okv v m r lv h e
    unfold mChange; rw [e]; exact this
  · have := mch12_calls w M ok okv v m r lv h e
    unfold mChange; rw [e]; exact this
  · have := mch13_calls w M ok okv v m r lv h e
    unfold mChange; rw [e]; exact this
  · have := mch14_calls w M ok okv v m r lv h e
    unfold mChange; rw [e]; exact this
  · have := mch15_calls w M ok okv v m r lv h e
    unfold mChange; rw [e]; exact this
  · have := mch16_calls w M ok okv v m r lv h e
    unfold mChange; rw [e]; exact this
  · have := mch17_calls w M ok okv v m r lv h e
    unfold mChange; rw [e]; exact this
  · have := mch18_calls w M ok okv v m r lv h e
    unfold mChange; rw [e]; exact this
  · have := mch19_calls w M ok okv v m r lv h e
    unfold mChange; rw [e]; exact this
  · have := mch20_calls w M ok okv v m r lv h e
    unfold mChange; rw [e]; exact this
end Go.Proofs.Qxb6500666aGreatDoor
