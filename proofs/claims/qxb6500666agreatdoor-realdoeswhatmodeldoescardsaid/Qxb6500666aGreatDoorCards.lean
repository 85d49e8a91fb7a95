/-
  DERIVED. GIVEN WITH THE SEED: THE CARDS: each row of Qxb6500666aGreatDoorRows.lean that lists a variable, with what it lists TIED to the program's text (the seventh form; the later family's looks); each row that meets fmt, with fmt's text TOLD by the authors' own Lean function (tested against real Go, not proved from fmt's source: count such statements apart). THE CARD IS WHAT COUNTS. Prove the row's statement (the work); the ties are given (Qxb6500666aGreatDoorTie.lean); close each card by the builder's one call (the guide's Derived/Test/ToyasCard.lean, 'card_holds'). Laid BY PROGRAM, IN A SANDBOX (cutbox-door.mjs). By AI agents, Wed Nov 11 2026. No macro, syntax, notation, axiom, sorry.
-/
import Derived.Test.Qxb6500666aGreatDoorRows
import GoSem.ClaimSeven
namespace Go.Proofs.Qxb6500666aGreatDoor
namespace Rows

/-- THE TIED CARD OF 'transferlaw.RealDoesWhatModelDoes'. -/
def realDoesWhatModelDoesCard : Claim7 := { stood := { row := realDoesWhatModelDoesRow, standIns := [], harness := (true, "45eb7824bb4b9973b1d90aefb43056f949513ef33da618085c954036e42cf8ac"), looks := true }, kinds := [], alts := [], laidByText := true, laidKinds := [.data, .data, .data, .data, .funcs], laidTests := true, laidLooks := .later }
def RealDoesWhatModelDoesCardSaid : Prop := Claim7.holds Tryz.pinned (.plain (OpenSpec.ofChange realDoesWhatModelDoesSpec)) realDoesWhatModelDoesCard

/-- THE TIED CARD OF 'transferlaw.EligibilityIsThePredicate'. -/
def eligibilityIsThePredicateCard : Claim7 := { stood := { row := eligibilityIsThePredicateRow, standIns := [], harness := (true, "45eb7824bb4b9973b1d90aefb43056f949513ef33da618085c954036e42cf8ac"), looks := true }, kinds := [], alts := [], laidByText := true, laidKinds := [.data, .data, .data, .data, .data, .funcs], laidTests := true, laidLooks := .later }
def EligibilityIsThePredicateCardSaid : Prop := Claim7.holds Tryz.pinned (.plain (OpenSpec.ofChange eligibilityIsThePredicateSpec)) eligibilityIsThePredicateCard

/-- THE TIED CARD OF 'transferlaw.CorrectionGivesNewRowVersion'. -/
def correctionGivesNewRowVersionCard : Claim7 := { stood := { row := correctionGivesNewRowVersionRow, standIns := [], harness := (true, "45eb7824bb4b9973b1d90aefb43056f949513ef33da618085c954036e42cf8ac"), looks := true }, kinds := [], alts := [], laidByText := true, laidKinds := [.data, .data, .data, .data, .funcs], laidTests := true, laidLooks := .later }
def CorrectionGivesNewRowVersionCardSaid : Prop := Claim7.holds Tryz.pinned (.plain (OpenSpec.ofChange correctionGivesNewRowVersionSpec)) correctionGivesNewRowVersionCard

/-- THE TIED CARD OF 'transferlaw.AuditGrowsByOnePerAcceptedCommand'. -/
def auditGrowsByOnePerAcceptedCommandCard : Claim7 := { stood := { row := auditGrowsByOnePerAcceptedCommandRow, standIns := [], harness := (true, "45eb7824bb4b9973b1d90aefb43056f949513ef33da618085c954036e42cf8ac"), looks := true }, kinds := [], alts := [], laidByText := true, laidKinds := [.data, .data, .data, .data, .funcs], laidTests := true, laidLooks := .later }
def AuditGrowsByOnePerAcceptedCommandCardSaid : Prop := Claim7.holds Tryz.pinned (.plain (OpenSpec.ofChange auditGrowsByOnePerAcceptedCommandSpec)) auditGrowsByOnePerAcceptedCommandCard

/-- THE TIED CARD OF 'transferlaw.PermissionComesFirst'. -/
def permissionComesFirstCard : Claim7 := { stood := { row := permissionComesFirstRow, standIns := [], harness := (true, "45eb7824bb4b9973b1d90aefb43056f949513ef33da618085c954036e42cf8ac"), looks := true }, kinds := [], alts := [], laidByText := true, laidKinds := [.data, .data, .data, .data, .funcs], laidTests := true, laidLooks := .later }
def PermissionComesFirstCardSaid : Prop := Claim7.holds Tryz.pinned (.plain (OpenSpec.ofChange permissionComesFirstSpec)) permissionComesFirstCard

/-- THE TIED CARD OF 'transferlaw.RefusalsChangeNothing'. -/
def refusalsChangeNothingCard : Claim7 := { stood := { row := refusalsChangeNothingRow, standIns := [], harness := (true, "45eb7824bb4b9973b1d90aefb43056f949513ef33da618085c954036e42cf8ac"), looks := true }, kinds := [], alts := [], laidByText := true, laidKinds := [.data, .data, .data, .data, .funcs], laidTests := true, laidLooks := .later }
def RefusalsChangeNothingCardSaid : Prop := Claim7.holds Tryz.pinned (.plain (OpenSpec.ofChange refusalsChangeNothingSpec)) refusalsChangeNothingCard

/-- THE TIED CARD OF 'transferlaw.IssuedRowsAreJustified'. -/
def issuedRowsAreJustifiedCard : Claim7 := { stood := { row := issuedRowsAreJustifiedRow, standIns := [], harness := (true, "45eb7824bb4b9973b1d90aefb43056f949513ef33da618085c954036e42cf8ac"), looks := true }, kinds := [], alts := [], laidByText := true, laidKinds := [.data, .data, .data, .data, .funcs], laidTests := true, laidLooks := .later }
def IssuedRowsAreJustifiedCardSaid : Prop := Claim7.holds Tryz.pinned (.plain (OpenSpec.ofChange issuedRowsAreJustifiedSpec)) issuedRowsAreJustifiedCard

/-- THE TIED CARD OF 'transferlaw.IssuedFilesParseToModelRows'. -/
def issuedFilesParseToModelRowsCard : Claim7 := { stood := { row := issuedFilesParseToModelRowsRow, standIns := [], harness := (true, "45eb7824bb4b9973b1d90aefb43056f949513ef33da618085c954036e42cf8ac"), looks := true }, kinds := [], alts := [], laidByText := true, laidKinds := [.data, .data, .data, .data, .funcs], laidTests := true, laidLooks := .later }
def IssuedFilesParseToModelRowsCardSaid : Prop := Claim7.holds Tryz.pinned (.plain (OpenSpec.ofChange issuedFilesParseToModelRowsSpec)) issuedFilesParseToModelRowsCard

/-- THE TIED CARD OF 'transferlaw.ParsersAcceptOnlyRenderings'. -/
def parsersAcceptOnlyRenderingsCard : Claim7 := { stood := { row := parsersAcceptOnlyRenderingsRow, standIns := [], harness := (true, "45eb7824bb4b9973b1d90aefb43056f949513ef33da618085c954036e42cf8ac"), looks := true }, kinds := [], alts := [], laidByText := true, laidKinds := [.data, .data, .data, .data, .funcs], laidTests := true, laidLooks := .later }
def ParsersAcceptOnlyRenderingsCardSaid : Prop := Claim7.holds Tryz.pinned (.plain (OpenSpec.ofChange parsersAcceptOnlyRenderingsSpec)) parsersAcceptOnlyRenderingsCard

/-- THE TIED CARD OF 'transferlaw.CumulativeIsPrecedingPlusIncrementals'. -/
def cumulativeIsPrecedingPlusIncrementalsCard : Claim7 := { stood := { row := cumulativeIsPrecedingPlusIncrementalsRow, standIns := [], harness := (true, "45eb7824bb4b9973b1d90aefb43056f949513ef33da618085c954036e42cf8ac"), looks := true }, kinds := [], alts := [], laidByText := true, laidKinds := [.data, .data, .data, .data, .funcs], laidTests := true, laidLooks := .later }
def CumulativeIsPrecedingPlusIncrementalsCardSaid : Prop := Claim7.holds Tryz.pinned (.plain (OpenSpec.ofChange cumulativeIsPrecedingPlusIncrementalsSpec)) cumulativeIsPrecedingPlusIncrementalsCard

/-- THE TIED CARD OF 'transferlaw.LedgerRefusesTamperedFiles'. -/
def ledgerRefusesTamperedFilesCard : Claim7 := { stood := { row := ledgerRefusesTamperedFilesRow, standIns := [], harness := (true, "45eb7824bb4b9973b1d90aefb43056f949513ef33da618085c954036e42cf8ac"), looks := true }, kinds := [], alts := [], laidByText := true, laidKinds := [.data, .data, .data, .data, .funcs], laidTests := true, laidLooks := .later }
def LedgerRefusesTamperedFilesCardSaid : Prop := Claim7.holds Tryz.pinned (.plain (OpenSpec.ofChange ledgerRefusesTamperedFilesSpec)) ledgerRefusesTamperedFilesCard

/-- THE TIED CARD OF 'transferlaw.ReconciliationListsSetDifferences'. -/
def reconciliationListsSetDifferencesCard : Claim7 := { stood := { row := reconciliationListsSetDifferencesRow, standIns := [], harness := (true, "45eb7824bb4b9973b1d90aefb43056f949513ef33da618085c954036e42cf8ac"), looks := true }, kinds := [], alts := [], laidByText := true, laidKinds := [.data, .data, .data, .data, .funcs], laidTests := true, laidLooks := .later }
def ReconciliationListsSetDifferencesCardSaid : Prop := Claim7.holds Tryz.pinned (.plain (OpenSpec.ofChange reconciliationListsSetDifferencesSpec)) reconciliationListsSetDifferencesCard

/-- THE TIED CARD OF 'transferlaw.StateSurvivesACrash'. -/
def stateSurvivesACrashCard : Claim7 := { stood := { row := stateSurvivesACrashRow, standIns := [], harness := (true, "45eb7824bb4b9973b1d90aefb43056f949513ef33da618085c954036e42cf8ac"), looks := true }, kinds := [], alts := [], laidByText := true, laidKinds := [.data, .data, .data, .data, .funcs], laidTests := true, laidLooks := .later }
def StateSurvivesACrashCardSaid : Prop := Claim7.holds Tryz.pinned (.plain (OpenSpec.ofChange stateSurvivesACrashSpec)) stateSurvivesACrashCard

/-- THE TIED CARD OF 'transferlaw.DamagedStoreIsSurvived'. -/
def damagedStoreIsSurvivedCard : Claim7 := { stood := { row := damagedStoreIsSurvivedRow, standIns := [], harness := (true, "45eb7824bb4b9973b1d90aefb43056f949513ef33da618085c954036e42cf8ac"), looks := true }, kinds := [], alts := [], laidByText := true, laidKinds := [.data, .data, .data, .data, .funcs], laidTests := true, laidLooks := .later }
def DamagedStoreIsSurvivedCardSaid : Prop := Claim7.holds Tryz.pinned (.plain (OpenSpec.ofChange damagedStoreIsSurvivedSpec)) damagedStoreIsSurvivedCard

/-- THE TIED CARD OF 'transferlaw.BatchesFitTheStore'. -/
def batchesFitTheStoreCard : Claim7 := { stood := { row := batchesFitTheStoreRow, standIns := [], harness := (true, "45eb7824bb4b9973b1d90aefb43056f949513ef33da618085c954036e42cf8ac"), looks := true }, kinds := [], alts := [], laidByText := true, laidKinds := [.data, .data, .data, .data, .funcs], laidTests := true, laidLooks := .later }
def BatchesFitTheStoreCardSaid : Prop := Claim7.holds Tryz.pinned (.plain (OpenSpec.ofChange batchesFitTheStoreSpec)) batchesFitTheStoreCard
end Rows
end Go.Proofs.Qxb6500666aGreatDoor
