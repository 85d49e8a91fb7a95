/- The model's read: every kind. -/
import Derived.Test.Qxb6500666aGreatDoorMdT2
import Derived.Test.Qxb6500666aGreatDoorMdT3
import Derived.Test.Qxb6500666aGreatDoorMdT4
import Derived.Test.Qxb6500666aGreatDoorMdT5
import Derived.Test.Qxb6500666aGreatDoorMdT7
import Derived.Test.Qxb6500666aGreatDoorExecX
namespace Go.Proofs.Qxb6500666aGreatDoor
open Go.RowKit
/-- What a permitted reading of the model answers. -/
noncomputable def rdM (rn kn : Nat → ByteArray) (ok : Nat → Prop) (w w' : World) (m : Mod) (r : Req) : Except Int (Rsp → Prop) :=
  if r.kind = 21 then rdM21 m r else
  if r.kind = 22 then rdM22 m else
  if r.kind = 23 then rdM23 ok w' m r else
  if r.kind = 24 then rdM24 m r else
  if r.kind = 25 then rdM25 w w' m else
  if r.kind = 26 then rdM26 m r else
  if r.kind = 27 then rdM27 w w' m r else
  if r.kind = 28 then rdM28 w w' m r else
  if r.kind = 29 then rdM29 w w' m else
  rdM30 rn kn w w' m
theorem mrd_calls (rn kn ft : Nat → ByteArray) (w : World) (M : Nat) (ok : Nat → Prop) (v : MV) (m : Mod) (r : Req) (lv : Value) (h : RdI rn kn ft w M ok v m r) (hk : isRdg r.kind = true) :
    Calls Tryz.prog 145 #[.pointer (some ⟨M, 0, none⟩), .agg (reqA r lv)] w fun e w' => (∃ x, e = .returned (.agg (respCs x)) ∧ RV (rdM rn kn ok w w' m r) x) ∧ Below w.heap.size w w' := by
  rcases kindRd hk with e | e | e | e | e | e | e | e | e | e
  · refine (mrd21_calls rn kn ft w M ok v m r lv h e).mono fun e' w' hp => ?_
    have := hp.rv; unfold rdM; rw [e]; exact this
  · refine (mrd22_calls rn kn ft w M ok v m r lv h e).mono fun e' w' hp => ?_
    have := hp.rv; unfold rdM; rw [e]; exact this
  · refine (mrd23_calls rn kn ft w M ok v m r lv h e).mono fun e' w' hp => ?_
    have := hp.rv; unfold rdM; rw [e]; exact this
  · refine (mrd24_calls rn kn ft w M ok v m r lv h e).mono fun e' w' hp => ?_
    have := hp.rv; unfold rdM; rw [e]; exact this
  · refine (mrd25_calls rn kn ft w M ok v m r lv h e).mono fun e' w' hp => ?_
    have := hp.rv; unfold rdM; rw [e]; exact this
  · refine (mrd26_calls rn kn ft w M ok v m r lv h e).mono fun e' w' hp => ?_
    have := hp.rv; unfold rdM; rw [e]; exact this
  · refine (mrd27_calls rn kn ft w M ok v m r lv h e).mono fun e' w' hp => ?_
    have := hp.rv; unfold rdM; rw [e]; exact this
  · refine (mrd28_calls rn kn ft w M ok v m r lv h e).mono fun e' w' hp => ?_
    have := hp.rv; unfold rdM; rw [e]; exact this
  · refine (mrd29_calls rn kn ft w M ok v m r lv h e).mono fun e' w' hp => ?_
    have := hp.rv; unfold rdM; rw [e]; exact this
  · refine (mrd30_calls rn kn ft w M ok v m r lv h e).mono fun e' w' hp => ?_
    have := hp.rv; unfold rdM; rw [e]; exact this
theorem RV.imp' {P Q : Except Int (Rsp → Prop)} {x : Rsp} (h : RV P x) (k : P = Q ∨ ∃ p q, P = .ok p ∧ Q = .ok q ∧ (p x → q x)) : RV Q x := by
  rcases k with rfl | ⟨p, q, rfl, rfl, hpq⟩
  · exact h
  · exact hpq h
/-- The answer stays as it is while its memory does. -/
theorem rdM_keep {rn kn : Nat → ByteArray} {ok : Nat → Prop} {w W1 W3 W4 : World} {m : Mod} {r : Req} {x : Rsp} (h : w.heap.size ≤ W1.heap.size) (hs : ∀ b, W1.heap.size ≤ b → b < W3.heap.size → W4.heap[b]? = W3.heap[b]?) (ho : ∀ b, ok b → b < W3.heap.size → W4.heap[b]? = W3.heap[b]?) (hx : RV (rdM rn kn ok W1 W3 m r) x) : RV (rdM rn kn ok w W4 m r) x := by
  have own : ∀ {α : Type} {T : TypeId} {sz : Nat} {f : α → Array Value} {a : Option Addr} {n c : Nat} {l : List α}, OwnR W3 W1.heap.size T sz f (.slice a n c) l → OwnR W4 w.heap.size T sz f (.slice a n c) l := fun hp => (hp.mono fun b hb => hs b (hp.block b hb).1 (hp.block b hb).2).lower h
  have arr : ∀ {α : Type} {sz : Nat} {f : α → Array Value} {v : Value} {l : List α}, RArr W3 (W1.heap.size ≤ ·) sz f v l → RArr W4 (w.heap.size ≤ ·) sz f v l := fun hp => hp.lt.mono (fun b q => hs b q.1 q.2) (fun b q => by omega)
  unfold rdM at hx ⊢
  by_cases e1 : r.kind = 21
  · rw [if_pos e1] at hx ⊢; exact hx
  rw [if_neg e1] at hx ⊢
  by_cases e2 : r.kind = 22
  · rw [if_pos e2] at hx ⊢; exact hx
  rw [if_neg e2] at hx ⊢
  by_cases e3 : r.kind = 23
  · rw [if_pos e3] at hx ⊢
    refine hx.imp' ?_
    unfold rdM23
    by_cases h0 : r.id = 0 ∨ (m.au.length : Int) < r.id
    · rw [if_pos h0, if_pos h0]; exact Or.inl rfl
    · rw [if_neg h0, if_neg h0]
      exact Or.inr ⟨_, _, rfl, rfl, fun ⟨s, h1, a, n, c, h2, h3⟩ => ⟨s, h1, a, n, c, h2, h3.lt.mono (fun b q => ho b q.1 q.2) (fun b q => q.1)⟩⟩
  rw [if_neg e3] at hx ⊢
  by_cases e4 : r.kind = 24
  · rw [if_pos e4] at hx ⊢; exact hx
  rw [if_neg e4] at hx ⊢
  by_cases e5 : r.kind = 25
  · rw [if_pos e5] at hx ⊢
    exact RV.imp' hx (Or.inr ⟨_, _, rfl, rfl, fun ⟨a, n, c, h2, h3⟩ => ⟨a, n, c, h2, own h3⟩⟩)
  rw [if_neg e5] at hx ⊢
  by_cases e6 : r.kind = 26
  · rw [if_pos e6] at hx ⊢; exact hx
  rw [if_neg e6] at hx ⊢
  by_cases e7 : r.kind = 27
  · rw [if_pos e7] at hx ⊢
    refine hx.imp' ?_
    unfold rdM27
    cases mIss m r.id with
    | none => exact Or.inl rfl
    | some f => exact Or.inr ⟨_, _, rfl, rfl, fun ⟨a, n, c, h2, h3⟩ => ⟨a, n, c, h2, arr h3⟩⟩
  rw [if_neg e7] at hx ⊢
  by_cases e8 : r.kind = 28
  · rw [if_pos e8] at hx ⊢
    refine hx.imp' ?_
    unfold rdM28
    cases mIss m r.ref with
    | none => exact Or.inl rfl
    | some fl =>
      cases mFrom m r.id with
      | none => exact Or.inl rfl
      | some fe =>
        dsimp only
        by_cases h0 : (fe.kind != 67 || fl.kind != 67) = true
        · rw [if_pos h0, if_pos h0]; exact Or.inl rfl
        rw [if_neg h0, if_neg h0]
        by_cases h1 : r.ref ≤ r.id
        · rw [if_pos h1, if_pos h1]; exact Or.inl rfl
        rw [if_neg h1, if_neg h1]
        exact Or.inr ⟨_, _, rfl, rfl, fun ⟨a, n, c, a2, n2, c2, h2, h3, h4⟩ => ⟨a, n, c, a2, n2, c2, h2, arr h3, arr h4⟩⟩
  rw [if_neg e8] at hx ⊢
  by_cases e9 : r.kind = 29
  · rw [if_pos e9] at hx ⊢
    exact RV.imp' hx (Or.inr ⟨_, _, rfl, rfl, fun ⟨a, n, c, h2, h3⟩ => ⟨a, n, c, h2, own h3⟩⟩)
  rw [if_neg e9] at hx ⊢
  refine hx.imp' ?_
  unfold rdM30
  cases rtB 0 m.au with
  | true => exact Or.inr ⟨_, _, rfl, rfl, fun ⟨a, n, c, h2, h3⟩ => ⟨a, n, c, h2, arr h3⟩⟩
  | false => exact Or.inl rfl
end Go.Proofs.Qxb6500666aGreatDoor
