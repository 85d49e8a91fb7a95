/- put and drop of fresh bytes. -/
import Derived.Test.Qxb6500666aGreatDoorUserWalk
namespace Go.Proofs.Qxb6500666aGreatDoor
open Go.RowKit

/-- What a draft holds, and the bytes that were made since. -/
def Since (B : Nat → Prop) (V w : World) (b : Nat) : Prop := B b ∨ (V.heap.size ≤ b ∧ b < w.heap.size)

theorem DrW.apart {w : World} {D bd : Nat} {r : Req} {lv : Value} {s : Stat} {x : LV} {wv : Value} {iss : Int} {B : Nat → Prop} {zs : List ZW} (h : DrW w D bd r lv s x wv iss B zs) {w' : World} (hb : Below w.heap.size w w') (b : Nat) (hs : Since B w w' b) : b < w'.heap.size ∧ b ≠ D ∧ wv.ownBlock ≠ some b := by
  have hz := hb.size
  have hD := h.at'.lt
  rcases hs with hs | hs
  · refine ⟨Nat.lt_of_lt_of_le (h.lt b hs) hz, fun e => h.out (e ▸ hs), fun e => (h.sep b e).2 hs⟩
  · refine ⟨hs.2, by omega, fun e => ?_⟩
    have := (h.own.block b e).2
    omega

theorem put_fresh (V w : World) (D bd : Nat) (r : Req) (lv : Value) (s : Stat) (x : LV) (wv : Value) (iss : Int) (B : Nat → Prop) (zs : List ZW) (ka : Option Addr) (kn kc : Nat) (kb : List Int) (va : Option Addr) (vn vc : Nat) (vb : List Int) (h : DrW V D bd r lv s x wv iss B zs) (hb : Below V.heap.size V w) (hk : BytesAt w (fun b => V.heap.size ≤ b ∧ b < w.heap.size) (.slice ka kn kc) kb) (hv : BytesAt w (fun b => V.heap.size ≤ b ∧ b < w.heap.size) (.slice va vn vc) vb) (hl : zs.length ≤ 100000) :
    Calls Tryz.prog 177 #[.pointer (some ⟨D, 0, none⟩), .slice ka kn kc, .slice va vn vc] w fun e w' => e = .returned (.tuple #[]) ∧ ∃ wv', DrW w' D bd r lv s x wv' iss (Since B V w) (zs ++ [(((ka, kn, kc), (va, vn, vc)), ((kb, vb), false))]) ∧ DrStep V w' D bd wv wv' := by
  refine (put_calls w D bd r lv s x wv iss B (Since B V w) zs ka kn kc kb (h.below hb) (RArr.mono hk (Same.refl _ _) (fun _ h => Or.inr h)) va vn vc vb (RArr.mono hv (Same.refl _ _) (fun _ h => Or.inr h)) (fun _ h => Or.inl h) (fun b hs => h.apart hb b hs) hl).mono ?_
  rintro e w' ⟨rfl, wv', h1, h2⟩
  have := h.at'.lt
  have := h.baseD
  exact ⟨rfl, wv', h1, (DrStep.of_below hb (by omega)).trans h2⟩

theorem drop_fresh (V w : World) (D bd : Nat) (r : Req) (lv : Value) (s : Stat) (x : LV) (wv : Value) (iss : Int) (B : Nat → Prop) (zs : List ZW) (ka : Option Addr) (kn kc : Nat) (kb : List Int) (h : DrW V D bd r lv s x wv iss B zs) (hb : Below V.heap.size V w) (hk : BytesAt w (fun b => V.heap.size ≤ b ∧ b < w.heap.size) (.slice ka kn kc) kb) (hl : zs.length ≤ 100000) :
    Calls Tryz.prog 279 #[.pointer (some ⟨D, 0, none⟩), .slice ka kn kc] w fun e w' => e = .returned (.tuple #[]) ∧ ∃ wv', DrW w' D bd r lv s x wv' iss (Since B V w) (zs ++ [(((ka, kn, kc), (none, 0, 0)), ((kb, []), true))]) ∧ DrStep V w' D bd wv wv' := by
  refine (dropW_calls w D bd r lv s x wv iss B (Since B V w) zs ka kn kc kb (h.below hb) (RArr.mono hk (Same.refl _ _) (fun _ h => Or.inr h)) (fun _ h => Or.inl h) (fun b hs => h.apart hb b hs) hl).mono ?_
  rintro e w' ⟨rfl, wv', h1, h2⟩
  have := h.at'.lt
  have := h.baseD
  exact ⟨rfl, wv', h1, (DrStep.of_below hb (by omega)).trans h2⟩

/-- Fresh bytes of an encoder, seen from the world where the making began. -/
theorem OwnR.since {V w w' : World} {v : Value} {bs : List Int} {m : Nat} (h : OwnR w m 5 1 byteCs v bs) (hm : V.heap.size ≤ m) (hl : bs.length ≤ 100000) (hb : Below w.heap.size w w') : BytesAt w' (fun b => V.heap.size ≤ b ∧ b < w'.heap.size) v bs :=
  RArr.mono (OwnR.fresh h hl hb) (Same.refl _ _) (fun _ h => ⟨Nat.le_trans hm h.1, h.2⟩)

end Go.Proofs.Qxb6500666aGreatDoor
