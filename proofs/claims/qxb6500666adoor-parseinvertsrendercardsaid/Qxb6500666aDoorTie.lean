/-
  DERIVED. GIVEN WITH THE SEED: THE PROGRAM's TIES (one call each: nine closed facts by the kernel) AND EACH ROW's TIE, after the 31st guide's Derived/Test/Toyas{Tie, Card}.lean. No idea stands in it: it is a product of the set-up. Laid BY PROGRAM, IN A SANDBOX (cutbox-door.mjs). By AI agents, Wed Nov 11 2026. No macro, syntax, notation, axiom, sorry.
-/
import Derived.Test.Qxb6500666aDoorRows
import Derived.LaidByTextLater
import Derived.SevenTiedAt
import Derived.LaidSub
import Derived.LaidOnce
namespace Go.Proofs.Qxb6500666aDoor
open Go
set_option maxRecDepth 100000
theorem seatTie1 : Tryd.prog.laidByTextLater [("e2e/api.grants", Rows.laid_e2e_api_grants), ("e2e/api.kindNames", Rows.laid_e2e_api_kindNames), ("e2e/transfer.faultText", Rows.laid_e2e_transfer_faultText)] [.data, .data, .data] true :=
  Program.laidByTextLater_by_one 54 8 32 (by kernel_rfl) (by kernel_rfl) (by kernel_rfl) (by kernel_rfl) (by kernel_rfl) (by kernel_rfl) (fun _ _ => by kernel_rfl)
theorem noOwnUnsafe : Tryd.pinned.checked.prog.headLifts.contains "ownunsafe" = false := by kernel_rfl
theorem tie : Tryd.prog.laidByTextLater [("e2e/transfer.faultText", Rows.laid_e2e_transfer_faultText)] [.data] true :=
  Program.laidByTextLater.sub seatTie1 ["e2e/transfer.faultText"] (by kernel_rfl) (by kernel_rfl)
theorem parseInvertsRender_row_tie : Rows.parseInvertsRenderRow.laidByTextAt .later Tryd.pinned [.data] true :=
  OpenClaim.laidByTextAt_later rfl rfl tie noOwnUnsafe
theorem applyDifferAndReconcileAgree_row_tie : Rows.applyDifferAndReconcileAgreeRow.laidByTextAt .later Tryd.pinned [.data] true :=
  OpenClaim.laidByTextAt_later rfl rfl tie noOwnUnsafe
theorem tie2 : Tryd.prog.laidByTextLater [("e2e/api.grants", Rows.laid_e2e_api_grants), ("e2e/api.kindNames", Rows.laid_e2e_api_kindNames)] [.data, .data] true :=
  Program.laidByTextLater.sub seatTie1 ["e2e/api.grants", "e2e/api.kindNames"] (by kernel_rfl) (by kernel_rfl)
theorem permissionTableIsSound_row_tie : Rows.permissionTableIsSoundRow.laidByTextAt .later Tryd.pinned [.data, .data] true :=
  OpenClaim.laidByTextAt_later rfl rfl tie2 noOwnUnsafe
end Go.Proofs.Qxb6500666aDoor
