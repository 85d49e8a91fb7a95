/-
  DERIVED. GIVEN WITH THE SEED: THE PROGRAM's TIES (one call each: nine closed facts by the kernel) AND EACH ROW's TIE, after the 31st guide's Derived/Test/Toyas{Tie, Card}.lean. No idea stands in it: it is a product of the set-up. Laid BY PROGRAM, IN A SANDBOX (cutbox-door.mjs). By AI agents, Wed Nov 11 2026. No macro, syntax, notation, axiom, sorry.
-/
import Derived.Test.Qxb6500666aGreatDoorRows
import Derived.LaidByTextLater
import Derived.SevenTiedAt
import Derived.LaidSub
import Derived.LaidOnce
namespace Go.Proofs.Qxb6500666aGreatDoor
open Go
set_option maxRecDepth 100000
theorem seatTie1 : Tryz.prog.laidByTextLater [("e2e/api.grants", Rows.laid_e2e_api_grants), ("e2e/api.kindNames", Rows.laid_e2e_api_kindNames), ("e2e/api.roleNames", Rows.laid_e2e_api_roleNames), ("e2e/transfer.faultText", Rows.laid_e2e_transfer_faultText), ("e2e/transfer.handlers", Rows.laid_e2e_transfer_handlers)] [.data, .data, .data, .data, .funcs] true :=
  Program.laidByTextLater_by_one 79 8 32 (by kernel_rfl) (by kernel_rfl) (by kernel_rfl) (by kernel_rfl) (by kernel_rfl) (by kernel_rfl) (fun _ _ => by kernel_rfl)
theorem seatTie2 : Tryz.prog.laidByTextLater [("e2e/api.grants", Rows.laid_e2e_api_grants), ("e2e/api.kindNames", Rows.laid_e2e_api_kindNames), ("e2e/api.roleNames", Rows.laid_e2e_api_roleNames), ("e2e/transfer.holdNames", Rows.laid_e2e_transfer_holdNames), ("e2e/transfer.faultText", Rows.laid_e2e_transfer_faultText), ("e2e/transfer.handlers", Rows.laid_e2e_transfer_handlers)] [.data, .data, .data, .data, .data, .funcs] true :=
  Program.laidByTextLater_by_one 79 8 32 (by kernel_rfl) (by kernel_rfl) (by kernel_rfl) (by kernel_rfl) (by kernel_rfl) (by kernel_rfl) (fun _ _ => by kernel_rfl)
theorem noOwnUnsafe : Tryz.pinned.checked.prog.headLifts.contains "ownunsafe" = false := by kernel_rfl
theorem tie : Tryz.prog.laidByTextLater [("e2e/api.grants", Rows.laid_e2e_api_grants), ("e2e/api.kindNames", Rows.laid_e2e_api_kindNames), ("e2e/api.roleNames", Rows.laid_e2e_api_roleNames), ("e2e/transfer.faultText", Rows.laid_e2e_transfer_faultText), ("e2e/transfer.handlers", Rows.laid_e2e_transfer_handlers)] [.data, .data, .data, .data, .funcs] true :=
  Program.laidByTextLater.sub seatTie1 ["e2e/api.grants", "e2e/api.kindNames", "e2e/api.roleNames", "e2e/transfer.faultText", "e2e/transfer.handlers"] (by kernel_rfl) (by kernel_rfl)
theorem realDoesWhatModelDoes_row_tie : Rows.realDoesWhatModelDoesRow.laidByTextAt .later Tryz.pinned [.data, .data, .data, .data, .funcs] true :=
  OpenClaim.laidByTextAt_later rfl rfl tie noOwnUnsafe
theorem correctionGivesNewRowVersion_row_tie : Rows.correctionGivesNewRowVersionRow.laidByTextAt .later Tryz.pinned [.data, .data, .data, .data, .funcs] true :=
  OpenClaim.laidByTextAt_later rfl rfl tie noOwnUnsafe
theorem auditGrowsByOnePerAcceptedCommand_row_tie : Rows.auditGrowsByOnePerAcceptedCommandRow.laidByTextAt .later Tryz.pinned [.data, .data, .data, .data, .funcs] true :=
  OpenClaim.laidByTextAt_later rfl rfl tie noOwnUnsafe
theorem permissionComesFirst_row_tie : Rows.permissionComesFirstRow.laidByTextAt .later Tryz.pinned [.data, .data, .data, .data, .funcs] true :=
  OpenClaim.laidByTextAt_later rfl rfl tie noOwnUnsafe
theorem refusalsChangeNothing_row_tie : Rows.refusalsChangeNothingRow.laidByTextAt .later Tryz.pinned [.data, .data, .data, .data, .funcs] true :=
  OpenClaim.laidByTextAt_later rfl rfl tie noOwnUnsafe
theorem issuedRowsAreJustified_row_tie : Rows.issuedRowsAreJustifiedRow.laidByTextAt .later Tryz.pinned [.data, .data, .data, .data, .funcs] true :=
  OpenClaim.laidByTextAt_later rfl rfl tie noOwnUnsafe
theorem issuedFilesParseToModelRows_row_tie : Rows.issuedFilesParseToModelRowsRow.laidByTextAt .later Tryz.pinned [.data, .data, .data, .data, .funcs] true :=
  OpenClaim.laidByTextAt_later rfl rfl tie noOwnUnsafe
theorem parsersAcceptOnlyRenderings_row_tie : Rows.parsersAcceptOnlyRenderingsRow.laidByTextAt .later Tryz.pinned [.data, .data, .data, .data, .funcs] true :=
  OpenClaim.laidByTextAt_later rfl rfl tie noOwnUnsafe
theorem cumulativeIsPrecedingPlusIncrementals_row_tie : Rows.cumulativeIsPrecedingPlusIncrementalsRow.laidByTextAt .later Tryz.pinned [.data, .data, .data, .data, .funcs] true :=
  OpenClaim.laidByTextAt_later rfl rfl tie noOwnUnsafe
theorem ledgerRefusesTamperedFiles_row_tie : Rows.ledgerRefusesTamperedFilesRow.laidByTextAt .later Tryz.pinned [.data, .data, .data, .data, .funcs] true :=
  OpenClaim.laidByTextAt_later rfl rfl tie noOwnUnsafe
theorem reconciliationListsSetDifferences_row_tie : Rows.reconciliationListsSetDifferencesRow.laidByTextAt .later Tryz.pinned [.data, .data, .data, .data, .funcs] true :=
  OpenClaim.laidByTextAt_later rfl rfl tie noOwnUnsafe
theorem stateSurvivesACrash_row_tie : Rows.stateSurvivesACrashRow.laidByTextAt .later Tryz.pinned [.data, .data, .data, .data, .funcs] true :=
  OpenClaim.laidByTextAt_later rfl rfl tie noOwnUnsafe
theorem damagedStoreIsSurvived_row_tie : Rows.damagedStoreIsSurvivedRow.laidByTextAt .later Tryz.pinned [.data, .data, .data, .data, .funcs] true :=
  OpenClaim.laidByTextAt_later rfl rfl tie noOwnUnsafe
theorem batchesFitTheStore_row_tie : Rows.batchesFitTheStoreRow.laidByTextAt .later Tryz.pinned [.data, .data, .data, .data, .funcs] true :=
  OpenClaim.laidByTextAt_later rfl rfl tie noOwnUnsafe
theorem tie2 : Tryz.prog.laidByTextLater [("e2e/api.grants", Rows.laid_e2e_api_grants), ("e2e/api.kindNames", Rows.laid_e2e_api_kindNames), ("e2e/api.roleNames", Rows.laid_e2e_api_roleNames), ("e2e/transfer.holdNames", Rows.laid_e2e_transfer_holdNames), ("e2e/transfer.faultText", Rows.laid_e2e_transfer_faultText), ("e2e/transfer.handlers", Rows.laid_e2e_transfer_handlers)] [.data, .data, .data, .data, .data, .funcs] true :=
  Program.laidByTextLater.sub seatTie2 ["e2e/api.grants", "e2e/api.kindNames", "e2e/api.roleNames", "e2e/transfer.holdNames", "e2e/transfer.faultText", "e2e/transfer.handlers"] (by kernel_rfl) (by kernel_rfl)
theorem eligibilityIsThePredicate_row_tie : Rows.eligibilityIsThePredicateRow.laidByTextAt .later Tryz.pinned [.data, .data, .data, .data, .data, .funcs] true :=
  OpenClaim.laidByTextAt_later rfl rfl tie2 noOwnUnsafe
end Go.Proofs.Qxb6500666aGreatDoor
