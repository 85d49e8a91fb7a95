/- The closed facts of the row, limb by limb. -/
import Derived.Test.Qxb6500666aGreatDoorRows
import Derived.JoinedOf
namespace Go.Proofs.Qxb6500666aGreatDoor
open Go
theorem rdm_and {a b : Bool} (ha : a = true) (hb : b = true) : (a && b) = true := by rw [ha, hb]; rfl
set_option maxRecDepth 100000 in
set_option maxHeartbeats 4000000 in
theorem rdm_closed : joinedFacts Tryz.pinned.checked.prog 3 Tryz.f3 Rows.realDoesWhatModelDoesSpec Rows.realDoesWhatModelDoesRow = true := by
  unfold joinedFacts
  exact (rdm_and (rdm_and (rdm_and (rdm_and (rdm_and (rdm_and (rdm_and (rdm_and (rdm_and (rdm_and (rdm_and (rdm_and (rdm_and (rdm_and (rdm_and (rdm_and (rdm_and (rdm_and (rdm_and (rdm_and (rdm_and (rdm_and (rdm_and (rdm_and (rdm_and (rdm_and (rdm_and (rdm_and (rdm_and (rdm_and (rdm_and (by as_aux_lemma => kernel_rfl)
    (by as_aux_lemma => kernel_rfl))
    (by as_aux_lemma => kernel_rfl))
    (by as_aux_lemma => kernel_rfl))
    (by as_aux_lemma => kernel_rfl))
    (by as_aux_lemma => kernel_rfl))
    (by as_aux_lemma => kernel_rfl))
    (by as_aux_lemma => kernel_rfl))
    (by as_aux_lemma => kernel_rfl))
    (by as_aux_lemma => kernel_rfl))
    (by as_aux_lemma => kernel_rfl))
    (by as_aux_lemma => kernel_rfl))
    (by as_aux_lemma => kernel_rfl))
    (by as_aux_lemma => kernel_rfl))
    (by as_aux_lemma => kernel_rfl))
    (by as_aux_lemma => kernel_rfl))
    (by as_aux_lemma => kernel_rfl))
    (by as_aux_lemma => kernel_rfl))
    (by as_aux_lemma => kernel_rfl))
    (by as_aux_lemma => kernel_rfl))
    (by as_aux_lemma => kernel_rfl))
    (by as_aux_lemma => kernel_rfl))
    (by as_aux_lemma => kernel_rfl))
    (by as_aux_lemma => kernel_rfl))
    (by as_aux_lemma => kernel_rfl))
    (by as_aux_lemma => kernel_rfl))
    (by as_aux_lemma => kernel_rfl))
    (by as_aux_lemma => kernel_rfl))
    (by as_aux_lemma => kernel_rfl))
    (by as_aux_lemma => kernel_rfl))
    (by as_aux_lemma => kernel_rfl))
    (by as_aux_lemma => kernel_rfl))
end Go.Proofs.Qxb6500666aGreatDoor
