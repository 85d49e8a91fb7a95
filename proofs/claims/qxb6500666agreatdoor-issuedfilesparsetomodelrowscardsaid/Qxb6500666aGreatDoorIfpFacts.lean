/- The closed facts of the row, limb by limb. -/
import Derived.Test.Qxb6500666aGreatDoorRows
import Derived.JoinedOf
namespace Go.Proofs.Qxb6500666aGreatDoor
open Go
theorem ifp_and {a b : Bool} (ha : a = true) (hb : b = true) : (a && b) = true := by rw [ha, hb]; rfl
set_option maxRecDepth 100000 in
set_option maxHeartbeats 4000000 in
theorem ifp_closed : joinedFacts Tryz.pinned.checked.prog 10 Tryz.f10 Rows.issuedFilesParseToModelRowsSpec Rows.issuedFilesParseToModelRowsRow = true := by
  unfold joinedFacts
  exact (ifp_and (ifp_and (ifp_and (ifp_and (ifp_and (ifp_and (ifp_and (ifp_and (ifp_and (ifp_and (ifp_and (ifp_and (ifp_and (ifp_and (ifp_and (ifp_and (ifp_and (ifp_and (ifp_and (ifp_and (ifp_and (ifp_and (ifp_and (ifp_and (ifp_and (ifp_and (ifp_and (ifp_and (ifp_and (ifp_and (ifp_and (by as_aux_lemma => kernel_rfl)
    (by as_aux_lemma => kernel_rfl))
    (by as_aux_lemma => kernel_rfl))
    (by as_aux_lemma => kernel_rfl))
    (by as_aux_lemma => kernel_rfl))
    (by as_aux_lemma => kernel_rfl))
    (by as_aux_lemma => kernel_rfl))
    (by as_aux_lemma => kernel_rfl))
    (by as_aux_lemma => kernel_rfl))
    (by as_aux_lemma => kernel_rfl))
    (by as_aux_lemma => kernel_rfl))
    (by as_aux_lemma => kernel_rfl))
    (by as_aux_lemma => kernel_rfl))
    (by as_aux_lemma => kernel_rfl))
    (by as_aux_lemma => kernel_rfl))
    (by as_aux_lemma => kernel_rfl))
    (by as_aux_lemma => kernel_rfl))
    (by as_aux_lemma => kernel_rfl))
    (by as_aux_lemma => kernel_rfl))
    (by as_aux_lemma => kernel_rfl))
    (by as_aux_lemma => kernel_rfl))
    (by as_aux_lemma => kernel_rfl))
    (by as_aux_lemma => kernel_rfl))
    (by as_aux_lemma => kernel_rfl))
    (by as_aux_lemma => kernel_rfl))
    (by as_aux_lemma => kernel_rfl))
    (by as_aux_lemma => kernel_rfl))
    (by as_aux_lemma => kernel_rfl))
    (by as_aux_lemma => kernel_rfl))
    (by as_aux_lemma => kernel_rfl))
    (by as_aux_lemma => kernel_rfl))
    (by as_aux_lemma => kernel_rfl))
end Go.Proofs.Qxb6500666aGreatDoor
