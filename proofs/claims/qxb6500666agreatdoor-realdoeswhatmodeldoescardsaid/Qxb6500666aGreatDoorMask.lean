/- Loops in a great frame. -/
import Derived.Test.Qxb6500666aGreatDoorMix
import Derived.Deep.LoopGhost
import Derived.Deep.Cut
namespace Go.Proofs.Qxb6500666aGreatDoor
open Go.RowKit

inductive MSlot where
  | keep
  | any (i : Nat)
  | is (v : Value)

def maskL : List MSlot → List Value → (Nat → Value) → List Value
  | [], vs, _ => vs
  | _ :: _, [], _ => []
  | .keep :: bs, v :: vs, u => v :: maskL bs vs u
  | .any i :: bs, _ :: vs, u => u i :: maskL bs vs u
  | .is x :: bs, _ :: vs, u => x :: maskL bs vs u

theorem maskL_nil (vs : List Value) (u : Nat → Value) : maskL [] vs u = vs := rfl
theorem maskL_keep (bs : List MSlot) (v : Value) (vs : List Value) (u : Nat → Value) : maskL (.keep :: bs) (v :: vs) u = v :: maskL bs vs u := rfl
theorem maskL_any (i : Nat) (bs : List MSlot) (v : Value) (vs : List Value) (u : Nat → Value) : maskL (.any i :: bs) (v :: vs) u = u i :: maskL bs vs u := rfl
theorem maskL_is (x : Value) (bs : List MSlot) (v : Value) (vs : List Value) (u : Nat → Value) : maskL (.is x :: bs) (v :: vs) u = x :: maskL bs vs u := rfl

def readL (l : List Value) (n : Nat) : Value := l.getD n (.bool false)

/-- A loop: the slots that the body writes are 'any' but those that the relation names. -/
theorem wp_loop_mask {α : Type} {P : Program} {Q : Exit → Act → World → Prop} {l : List Value} {ds : List Deferred} {w : World} {c : Code} (bits : α → List MSlot) (rel : Nat → α → World → Prop) (n₀ : Nat) (x₀ : α) (h₀ : rel n₀ x₀ w) (e₀ : l = maskL (bits x₀) l (readL l))
    (round : ∀ gk x u wr, rel gk x wr → ∀ (J : Nat → Act → World → Prop) (K : Act → World → Prop), Hid (∀ k x' w' F, rel k x' w' → F = maskL (bits x') l (readL F) → J k ⟨F.toArray, ds⟩ w') → (∀ a' w', Handed J gk a' w' → K a' w') → c.wp P (Exit.then K Q) ⟨(maskL (bits x) l u).toArray, ds⟩ wr) : (Code.loop c).wp P Q ⟨l.toArray, ds⟩ w := by
  refine wp_loop_ghost_k (fun k a w => ∃ x u, rel k x w ∧ a = ⟨(maskL (bits x) l u).toArray, ds⟩) n₀ ⟨x₀, _, h₀, by rw [← e₀]⟩ ?_
  rintro n a w ⟨x, u, hr, rfl⟩ J K hJ hK
  exact round n x u w hr J K (fun k x' w' F h e => hJ k _ w' ⟨x', _, h, by rw [← e]⟩) hK

/-- A cut in a great frame. -/
theorem wp_cut_mask {α : Type} {P : Program} {s : Code} {K : Act → World → Prop} {Q' : Exit → Act → World → Prop} {l : List Value} {ds : List Deferred} {w : World} (bits : α → List MSlot) (rel : α → World → Prop)
    (first : ∀ (J K' : Act → World → Prop), Hid (∀ x w' F, rel x w' → F = maskL (bits x) l (readL F) → J ⟨F.toArray, ds⟩ w') → (∀ a' w', Met J a' w' → K' a' w') → s.wp P (Exit.then K' Q') ⟨l.toArray, ds⟩ w)
    (rest : ∀ x u wc, rel x wc → K ⟨(maskL (bits x) l u).toArray, ds⟩ wc) : s.wp P (Exit.then K Q') ⟨l.toArray, ds⟩ w := by
  refine wp_cut (fun a w => ∃ x u, rel x w ∧ a = ⟨(maskL (bits x) l u).toArray, ds⟩) ?_ ?_
  · rintro a w ⟨x, u, hr, rfl⟩
    exact rest x u w hr
  · intro J K' hJ hK
    exact first J K' (fun x w' F h e => hJ _ w' ⟨x, _, h, by rw [← e]⟩) hK

end Go.Proofs.Qxb6500666aGreatDoor
