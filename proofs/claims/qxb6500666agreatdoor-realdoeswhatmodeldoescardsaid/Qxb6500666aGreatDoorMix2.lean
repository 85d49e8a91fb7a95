/- Regions that draw: reads, calls one by one, reads again. -/
import Derived.Test.Qxb6500666aGreatDoorMix
namespace Go.Proofs.Qxb6500666aGreatDoor
open Go.RowKit

/-- The reads l first; the others of R later. -/
theorem wp_region_mix2 {P : Program} {id : Nat} {Q : Exit → Act → World → Prop} {a : Act} {w : World} {ops : Array Oper} (H : Nat) (R l : List Nat) (n : Nat) (hm : P.follows .mixedOrders = true) (hn : l.length + n = ops.size) (hl : ∀ k ∈ l, k ∈ R)
    (hB : (Region.noSelect ops && readsB .any ops l (Array.replicate ops.size false)) = true)
    (hQ : ∀ (d : Option Tmp) (v : Value) c a w, Q (.panic c) (a.put d v) w → Q (.panic c) a w)
    (h : wpQuiet P ops (fun w' => ∃ x : Ext H w, w' = x.world) (fun a' => wpMixR P .any ops Q (fun w' => ∃ x : Ext H w, w' = x.world) R n (listAll l (Array.replicate ops.size false)) a' w.drew) (opersAt ops l) a) :
    (Code.region id ops true).wp P Q a w := by
  simp only [Bool.and_eq_true] at hB
  refine wp_region_any hm (wpAny_of_mixR (S := fun w' => ∃ x : Ext H w, w' = x.world) (R := R) _ _ _ _ ?_)
  have := wpMixR_pre (md := .any) (S := fun w' => ∃ x : Ext H w, w' = x.world) (R := R) hB.1 hQ n l (Array.replicate ops.size false) a w.drew hl hB.2 ⟨⟨w.drew, (Below.refl _ _).drew⟩, rfl⟩ h
  rw [hn] at this
  exact this

/-- Reads that come later. -/
theorem mixR_reads {P : Program} {ops : Array Oper} {Q : Exit → Act → World → Prop} {S : World → Prop} {R : List Nat} {listed : Array Bool} {a : Act} {w : World} {n fuel : Nat} (l : List Nat) (hn : l.length + fuel = n) (hl : ∀ k ∈ l, k ∈ R)
    (hB : (Region.noSelect ops && readsB .any ops l listed) = true) (hQ : ∀ (d : Option Tmp) (v : Value) c a w, Q (.panic c) (a.put d v) w → Q (.panic c) a w) (hS : S w)
    (h : wpQuiet P ops S (fun a' => wpMixR P .any ops Q S R fuel (listAll l listed) a' w) (opersAt ops l) a) : wpMixR P .any ops Q S R n listed a w := by
  simp only [Bool.and_eq_true] at hB
  subst hn
  exact wpMixR_pre (md := .any) hB.1 hQ fuel l listed a w hl hB.2 hS h

end Go.Proofs.Qxb6500666aGreatDoor
