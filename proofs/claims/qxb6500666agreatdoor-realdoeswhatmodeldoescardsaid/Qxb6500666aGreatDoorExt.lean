/- Regions that draw their order, hold reads and calls that only make new memory: one walk in the text's order. -/
import Derived.Test.Qxb6500666aGreatDoorStruct
import Derived.BigQuiet
import Derived.Deep.QuietTactic
namespace Go.Proofs.Qxb6500666aGreatDoor
open Go.RowKit

/-- A world that is w below block H. -/
structure Ext (H : Nat) (w : World) where
  world : World
  below : Below H w world

section
variable {H : Nat} {w : World} (x : Ext H w)
theorem Ext.cell (b o : Nat) (s : Option Nat) (h : b < H) : x.world.cell? ⟨b, o, s⟩ = w.cell? ⟨b, o, s⟩ := x.below.cell (p := ⟨b, o, s⟩) h
theorem Ext.frozen (b o : Nat) (s : Option Nat) (h : b < H) : x.world.frozen? ⟨b, o, s⟩ = w.frozen? ⟨b, o, s⟩ := x.below.frozen (p := ⟨b, o, s⟩) h
theorem Ext.rng (b o n : Nat) (h : b < H) : rng x.world b o n = Qxb6500666aGreatDoor.rng w b o n := rng_of_block (x.below.block b h) o n
theorem Ext.whole (b n : Nat) (h : b < H) : whole x.world b n = Qxb6500666aGreatDoor.whole w b n := whole_of_block (x.below.block b h) n
end

theorem ext_const {H : Nat} {w : World} (p : Prop) : (∀ _ : Ext H w, p) = p := propext ⟨fun h => h ⟨w, Below.refl _ _⟩, fun h _ => h⟩

theorem wp_region_ext {P : Program} {id : Nat} {Q : Exit → Act → World → Prop} {a : Act} {w : World} {l : List Oper} (H : Nat) (hm : P.follows .mixedOrders = true) (hB : Region.lexB .any l.toArray = true)
    (h : wpQuiet P l.toArray (fun w' => ∃ x : Ext H w, w' = x.world) (fun a' => ∀ w', (∃ x : Ext H w, w' = x.world) → Q .normal a' w') l a) : (Code.region id l.toArray true).wp P Q a w :=
  wp_region_quiet (C := fun w' => ∃ x : Ext H w, w' = x.world) hm hB ⟨⟨w.drew, (Below.refl _ _).drew⟩, rfl⟩ (by simpa using h)

/-- A callee that only makes new memory, at a call in such a region. -/
theorem ext_call {P : Program} {f : FuncId} {args : Array Value} {H : Nat} {w : World} {x : Ext H w} {v : Value} (hH : H ≤ w.heap.size)
    (h : Calls P f args x.world fun e w' => e = .returned v ∧ Below x.world.heap.size x.world w') : Calls P f args x.world fun e w'' => e = .returned v ∧ ∃ y : Ext H w, w'' = y.world :=
  h.mono fun _ w' ⟨he, hb⟩ => ⟨he, ⟨w', x.below.trans (hb.mono (Nat.le_trans hH x.below.size))⟩, rfl⟩

/-- .. one that leaves the world as it is. -/
theorem ext_call_same {P : Program} {f : FuncId} {args : Array Value} {H : Nat} {w : World} {x : Ext H w} {v : Value}
    (h : Calls P f args x.world fun e w' => e = .returned v ∧ x.world = w') : Calls P f args x.world fun e w'' => e = .returned v ∧ ∃ y : Ext H w, w'' = y.world :=
  h.mono fun _ _ ⟨he, hb⟩ => ⟨he, x, hb.symm⟩

/-- What the walk uses behind a callee that only makes new memory: every old cell, mark, range reads as before. -/
theorem ext_rules {W w1 : World} (hb : Below W.heap.size W w1) :
    (∀ b o, b < W.heap.size → w1.cell? ⟨b, o, none⟩ = W.cell? ⟨b, o, none⟩) ∧ (∀ b o, b < W.heap.size → w1.frozen? ⟨b, o, none⟩ = W.frozen? ⟨b, o, none⟩) ∧
    (∀ b o n, b < W.heap.size → rng w1 b o n = rng W b o n) ∧ (∀ b n, b < W.heap.size → whole w1 b n = whole W b n) ∧ W.heap.size ≤ w1.heap.size :=
  ⟨fun b o h => hb.cell (p := ⟨b, o, none⟩) h, fun b o h => hb.frozen (p := ⟨b, o, none⟩) h, fun b o n h => rng_of_block (hb.block b h) o n, fun b n h => whole_of_block (hb.block b h) n, hb.size⟩

end Go.Proofs.Qxb6500666aGreatDoor
