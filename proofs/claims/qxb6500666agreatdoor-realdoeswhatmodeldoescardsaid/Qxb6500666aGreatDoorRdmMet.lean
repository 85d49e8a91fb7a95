/- A world in which the laid variables are as the row says. -/
import Derived.Test.Qxb6500666aGreatDoorRows
import Derived.LaidMore
import Derived.LaidLaws
import Derived.LaidHandle
import Derived.Stop.Joined
namespace Go.Proofs.Qxb6500666aGreatDoor
open Go
theorem rdm_met (os : Os) (args : Array Value) : laidMetH Tryz.prog Rows.realDoesWhatModelDoesRow.laid ((World.doorLaid Tryz.prog 3000 os).forCall (fun _ _ => 0) ⟨#[], args, []⟩).memory :=
  laidMetH_of_parts3 (fuel := 8) (laidMet_of_run' 8 (by as_aux_lemma => kernel_rfl) (by as_aux_lemma => kernel_rfl)) (by as_aux_lemma => kernel_rfl) (by as_aux_lemma => kernel_rfl)
end Go.Proofs.Qxb6500666aGreatDoor
