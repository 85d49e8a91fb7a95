/-
  NARROWER THAN 'FOR EVERY INPUT', by the rows' own cells (each row's printed sentence says how): RealDoesWhatModelDoes: laid · EligibilityIsThePredicate: laid · CorrectionGivesNewRowVersion: laid · AuditGrowsByOnePerAcceptedCommand: laid · PermissionComesFirst: laid · RefusalsChangeNothing: laid · IssuedRowsAreJustified: laid · IssuedFilesParseToModelRows: laid · ParsersAcceptOnlyRenderings: laid · CumulativeIsPrecedingPlusIncrementals: laid · LedgerRefusesTamperedFiles: laid · ReconciliationListsSetDifferences: laid · StateSurvivesACrash: laid · DamagedStoreIsSurvived: laid · BatchesFitTheStore: laid.
  DERIVED. THE GIVEN ROWS OF THIS SEAT. 15 by the template 'for every input the law returns true; each argument reads behind the call as it read before'; 0 by the template 'total and deterministic' (their statements: Qxb6500666aGreatDoorTotals.lean).
  GIVEN WITH THE SEED: the statements are not yours to turn. If you find one false, say at which input.
  Laid BY PROGRAM, IN A SANDBOX (cutbox-rows.mjs): the forced cells as the released guide's own fill.sh prints them over the translation d6defb3d2aa4ed4c… (all of the seat's roots in one cut). By AI agents, Wed Nov 11 2026. No macro, syntax, notation, axiom, sorry.
-/
import Derived.Test.Qxb6500666aGreatDoorChecked
import GoSem.Claim
import GoSem.ClaimJoined
import GoSem.ClaimMapViews
import Derived.JoinedTies
import Derived.KernelRfl
namespace Go.Proofs.Qxb6500666aGreatDoor
/- THE CELL 'sum', in the pinned program and in every row, IS THE sha256 OF THE DUMP (.gsa) THAT Qxb6500666aGreatDoorProg.lean LOADS. Nothing in Lean hashes anything: it is a label: what it is worth is what the hold of that sum in a sandbox is worth. -/
noncomputable def Tryz.pinned : Pinned := { name := "qxb6500666agreatdoor", sum := "d6defb3d2aa4ed4c96b29f03f46eb56b0b96657e1132a32a5baff96ffab56d68", checked := Tryz.checked }
namespace Rows
def none {H : Type} : Left H := { results := [], args := [] }

/- WHAT THE LISTED PACKAGE-LEVEL VARIABLES READ AS WHEN THE CALL BEGINS. Each datum BY PROGRAM (the guide's laid-datum.mjs) off the statement by which the dump's own 'gosem.cut.vars' lays the variable. In a bare row this is a premise. The card (Qxb6500666aGreatDoorCards.lean) ties it to the program's text. -/
def laid_e2e_api_grants {H : Type} : DataW H := .agg [.nil, .slice [.lit (.int .u8 1)] [], .slice [.lit (.int .u8 1)] [], .slice [.lit (.int .u8 2)] [], .slice [.lit (.int .u8 2)] [], .slice [.lit (.int .u8 2)] [], .slice [.lit (.int .u8 2), .lit (.int .u8 5)] [], .slice [.lit (.int .u8 3)] [], .slice [.lit (.int .u8 3)] [], .slice [.lit (.int .u8 4)] [], .slice [.lit (.int .u8 4), .lit (.int .u8 3)] [], .slice [.lit (.int .u8 5)] [], .slice [.lit (.int .u8 4)] [], .slice [.lit (.int .u8 4)] [], .slice [.lit (.int .u8 4), .lit (.int .u8 5)] [], .slice [.lit (.int .u8 5), .lit (.int .u8 4)] [], .slice [.lit (.int .u8 5)] [], .slice [.lit (.int .u8 5)] [], .slice [.lit (.int .u8 5)] [], .slice [.lit (.int .u8 5)] [], .slice [.lit (.int .u8 5)] [], .slice [.lit (.int .u8 1), .lit (.int .u8 6)] [], .slice [.lit (.int .u8 1), .lit (.int .u8 2), .lit (.int .u8 3), .lit (.int .u8 4), .lit (.int .u8 5), .lit (.int .u8 6)] [], .slice [.lit (.int .u8 1), .lit (.int .u8 6)] [], .slice [.lit (.int .u8 1), .lit (.int .u8 4), .lit (.int .u8 5), .lit (.int .u8 6)] [], .slice [.lit (.int .u8 1), .lit (.int .u8 5), .lit (.int .u8 6)] [], .slice [.lit (.int .u8 1), .lit (.int .u8 5), .lit (.int .u8 6)] [], .slice [.lit (.int .u8 1), .lit (.int .u8 5), .lit (.int .u8 6)] [], .slice [.lit (.int .u8 1), .lit (.int .u8 5), .lit (.int .u8 6)] [], .slice [.lit (.int .u8 1), .lit (.int .u8 4), .lit (.int .u8 5), .lit (.int .u8 6)] [], .slice [.lit (.int .u8 1), .lit (.int .u8 6)] []]
def laid_e2e_api_kindNames {H : Type} : DataW H := .agg [.lit (.string []), .lit (.string [97, 100, 100, 45, 117, 115, 101, 114]), .lit (.string [114, 101, 118, 111, 107, 101, 45, 117, 115, 101, 114]), .lit (.string [100, 101, 102, 105, 110, 101, 45, 97, 110, 97, 108, 121, 116, 101]), .lit (.string [97, 109, 101, 110, 100]), .lit (.string [97, 100, 100, 45, 115, 105, 116, 101]), .lit (.string [101, 110, 114, 111, 108]), .lit (.string [98, 117, 105, 108, 100, 45, 107, 105, 116]), .lit (.string [115, 104, 105, 112, 45, 107, 105, 116]), .lit (.string [97, 99, 99, 101, 115, 115, 105, 111, 110]), .lit (.string [114, 101, 99, 111, 114, 100, 45, 101, 120, 99, 117, 114, 115, 105, 111, 110]), .lit (.string [99, 111, 114, 114, 101, 99, 116, 45, 99, 111, 108, 108, 101, 99, 116, 105, 111, 110]), .lit (.string [101, 110, 116, 101, 114, 45, 114, 101, 115, 117, 108, 116]), .lit (.string [99, 111, 114, 114, 101, 99, 116, 45, 114, 101, 115, 117, 108, 116]), .lit (.string [119, 105, 116, 104, 100, 114, 97, 119, 45, 114, 101, 115, 117, 108, 116]), .lit (.string [114, 97, 105, 115, 101, 45, 113, 117, 101, 114, 121]), .lit (.string [97, 110, 115, 119, 101, 114, 45, 113, 117, 101, 114, 121]), .lit (.string [99, 108, 111, 115, 101, 45, 113, 117, 101, 114, 121]), .lit (.string [114, 101, 111, 112, 101, 110, 45, 113, 117, 101, 114, 121]), .lit (.string [105, 115, 115, 117, 101, 45, 105, 110, 99, 114, 101, 109, 101, 110, 116, 97, 108]), .lit (.string [105, 115, 115, 117, 101, 45, 99, 117, 109, 117, 108, 97, 116, 105, 118, 101]), .lit (.string [114, 101, 97, 100, 45, 117, 115, 101, 114]), .lit (.string [114, 101, 97, 100, 45, 115, 116, 97, 116, 117, 115]), .lit (.string [114, 101, 97, 100, 45, 97, 117, 100, 105, 116]), .lit (.string [114, 101, 97, 100, 45, 101, 108, 105, 103, 105, 98, 105, 108, 105, 116, 121]), .lit (.string [114, 101, 97, 100, 45, 112, 101, 110, 100, 105, 110, 103]), .lit (.string [114, 101, 97, 100, 45, 104, 101, 97, 100, 101, 114]), .lit (.string [114, 101, 97, 100, 45, 102, 105, 108, 101]), .lit (.string [114, 101, 97, 100, 45, 114, 101, 99, 111, 110, 99, 105, 108, 105, 97, 116, 105, 111, 110]), .lit (.string [114, 101, 97, 100, 45, 104, 101, 108, 100]), .lit (.string [114, 101, 97, 100, 45, 116, 114, 97, 105, 108])]
def laid_e2e_api_roleNames {H : Type} : DataW H := .agg [.lit (.string []), .lit (.string [97, 100, 109, 105, 110]), .lit (.string [100, 101, 115, 105, 103, 110, 101, 114]), .lit (.string [108, 111, 103, 105, 115, 116, 105, 99, 115]), .lit (.string [108, 97, 98, 111, 114, 97, 116, 111, 114, 121]), .lit (.string [100, 97, 116, 97, 45, 109, 97, 110, 97, 103, 101, 114]), .lit (.string [109, 111, 110, 105, 116, 111, 114])]
def laid_e2e_transfer_faultText {H : Type} : DataW H := .agg [.lit (.string []), .lit (.string [108, 105, 110, 101, 32, 109, 105, 115, 115, 105, 110, 103, 32, 111, 114, 32, 117, 110, 102, 105, 110, 105, 115, 104, 101, 100]), .lit (.string [119, 114, 111, 110, 103, 32, 110, 117, 109, 98, 101, 114, 32, 111, 102, 32, 102, 105, 101, 108, 100, 115]), .lit (.string [117, 110, 107, 110, 111, 119, 110, 32, 108, 101, 116, 116, 101, 114]), .lit (.string [98, 97, 100, 32, 110, 117, 109, 98, 101, 114]), .lit (.string [108, 105, 110, 101, 115, 32, 109, 97, 107, 101, 32, 110, 111, 32, 102, 105, 108, 101]), .lit (.string [99, 111, 117, 110, 116, 115, 32, 100, 105, 115, 97, 103, 114, 101, 101]), .lit (.string [99, 104, 101, 99, 107, 115, 117, 109, 32, 109, 105, 115, 109, 97, 116, 99, 104]), .lit (.string [98, 121, 116, 101, 115, 32, 97, 102, 116, 101, 114, 32, 116, 104, 101, 32, 116, 114, 97, 105, 108, 101, 114])]
def laid_e2e_transfer_handlers {H : Type} : DataW H := .iface "func table" (.agg [.nil, .iface "func" (.lit (.string [40, 42, 101, 50, 101, 47, 116, 114, 97, 110, 115, 102, 101, 114, 46, 83, 121, 115, 116, 101, 109, 41, 46, 97, 100, 100, 85, 115, 101, 114])), .iface "func" (.lit (.string [40, 42, 101, 50, 101, 47, 116, 114, 97, 110, 115, 102, 101, 114, 46, 83, 121, 115, 116, 101, 109, 41, 46, 114, 101, 118, 111, 107, 101, 85, 115, 101, 114])), .iface "func" (.lit (.string [40, 42, 101, 50, 101, 47, 116, 114, 97, 110, 115, 102, 101, 114, 46, 83, 121, 115, 116, 101, 109, 41, 46, 100, 101, 102, 105, 110, 101, 65, 110, 97, 108, 121, 116, 101])), .iface "func" (.lit (.string [40, 42, 101, 50, 101, 47, 116, 114, 97, 110, 115, 102, 101, 114, 46, 83, 121, 115, 116, 101, 109, 41, 46, 97, 109, 101, 110, 100])), .iface "func" (.lit (.string [40, 42, 101, 50, 101, 47, 116, 114, 97, 110, 115, 102, 101, 114, 46, 83, 121, 115, 116, 101, 109, 41, 46, 97, 100, 100, 83, 105, 116, 101])), .iface "func" (.lit (.string [40, 42, 101, 50, 101, 47, 116, 114, 97, 110, 115, 102, 101, 114, 46, 83, 121, 115, 116, 101, 109, 41, 46, 101, 110, 114, 111, 108])), .iface "func" (.lit (.string [40, 42, 101, 50, 101, 47, 116, 114, 97, 110, 115, 102, 101, 114, 46, 83, 121, 115, 116, 101, 109, 41, 46, 98, 117, 105, 108, 100, 75, 105, 116])), .iface "func" (.lit (.string [40, 42, 101, 50, 101, 47, 116, 114, 97, 110, 115, 102, 101, 114, 46, 83, 121, 115, 116, 101, 109, 41, 46, 115, 104, 105, 112, 75, 105, 116])), .iface "func" (.lit (.string [40, 42, 101, 50, 101, 47, 116, 114, 97, 110, 115, 102, 101, 114, 46, 83, 121, 115, 116, 101, 109, 41, 46, 97, 99, 99, 101, 115, 115, 105, 111, 110])), .iface "func" (.lit (.string [40, 42, 101, 50, 101, 47, 116, 114, 97, 110, 115, 102, 101, 114, 46, 83, 121, 115, 116, 101, 109, 41, 46, 114, 101, 99, 111, 114, 100, 69, 120, 99, 117, 114, 115, 105, 111, 110])), .iface "func" (.lit (.string [40, 42, 101, 50, 101, 47, 116, 114, 97, 110, 115, 102, 101, 114, 46, 83, 121, 115, 116, 101, 109, 41, 46, 99, 111, 114, 114, 101, 99, 116, 67, 111, 108, 108, 101, 99, 116, 105, 111, 110])), .iface "func" (.lit (.string [40, 42, 101, 50, 101, 47, 116, 114, 97, 110, 115, 102, 101, 114, 46, 83, 121, 115, 116, 101, 109, 41, 46, 101, 110, 116, 101, 114, 82, 101, 115, 117, 108, 116])), .iface "func" (.lit (.string [40, 42, 101, 50, 101, 47, 116, 114, 97, 110, 115, 102, 101, 114, 46, 83, 121, 115, 116, 101, 109, 41, 46, 99, 111, 114, 114, 101, 99, 116, 82, 101, 115, 117, 108, 116])), .iface "func" (.lit (.string [40, 42, 101, 50, 101, 47, 116, 114, 97, 110, 115, 102, 101, 114, 46, 83, 121, 115, 116, 101, 109, 41, 46, 119, 105, 116, 104, 100, 114, 97, 119, 82, 101, 115, 117, 108, 116])), .iface "func" (.lit (.string [40, 42, 101, 50, 101, 47, 116, 114, 97, 110, 115, 102, 101, 114, 46, 83, 121, 115, 116, 101, 109, 41, 46, 114, 97, 105, 115, 101, 81, 117, 101, 114, 121])), .iface "func" (.lit (.string [40, 42, 101, 50, 101, 47, 116, 114, 97, 110, 115, 102, 101, 114, 46, 83, 121, 115, 116, 101, 109, 41, 46, 97, 110, 115, 119, 101, 114, 81, 117, 101, 114, 121])), .iface "func" (.lit (.string [40, 42, 101, 50, 101, 47, 116, 114, 97, 110, 115, 102, 101, 114, 46, 83, 121, 115, 116, 101, 109, 41, 46, 99, 108, 111, 115, 101, 81, 117, 101, 114, 121])), .iface "func" (.lit (.string [40, 42, 101, 50, 101, 47, 116, 114, 97, 110, 115, 102, 101, 114, 46, 83, 121, 115, 116, 101, 109, 41, 46, 114, 101, 111, 112, 101, 110, 81, 117, 101, 114, 121])), .iface "func" (.lit (.string [40, 42, 101, 50, 101, 47, 116, 114, 97, 110, 115, 102, 101, 114, 46, 83, 121, 115, 116, 101, 109, 41, 46, 105, 115, 115, 117, 101, 73, 110, 99, 114, 101, 109, 101, 110, 116, 97, 108])), .iface "func" (.lit (.string [40, 42, 101, 50, 101, 47, 116, 114, 97, 110, 115, 102, 101, 114, 46, 83, 121, 115, 116, 101, 109, 41, 46, 105, 115, 115, 117, 101, 67, 117, 109, 117, 108, 97, 116, 105, 118, 101]))])
def laid_e2e_transfer_holdNames {H : Type} : DataW H := .agg [.agg [.lit (.int .u16 1), .lit (.string [119, 105, 116, 104, 100, 114, 97, 119, 110])], .agg [.lit (.int .u16 2), .lit (.string [115, 117, 98, 106, 101, 99, 116, 32, 110, 111, 116, 32, 101, 110, 114, 111, 108, 108, 101, 100])], .agg [.lit (.int .u16 4), .lit (.string [107, 105, 116, 32, 110, 111, 116, 32, 115, 104, 105, 112, 112, 101, 100, 32, 116, 111, 32, 116, 104, 101, 32, 115, 117, 98, 106, 101, 99, 116, 39, 115, 32, 115, 105, 116, 101])], .agg [.lit (.int .u16 8), .lit (.string [118, 105, 115, 105, 116, 32, 110, 111, 116, 32, 105, 110, 32, 116, 104, 101, 32, 112, 114, 111, 116, 111, 99, 111, 108, 32, 118, 101, 114, 115, 105, 111, 110, 32, 97, 116, 32, 99, 111, 108, 108, 101, 99, 116, 105, 111, 110])], .agg [.lit (.int .u16 16), .lit (.string [97, 110, 97, 108, 121, 116, 101, 32, 110, 111, 116, 32, 100, 101, 102, 105, 110, 101, 100])], .agg [.lit (.int .u16 32), .lit (.string [116, 105, 109, 101, 115, 32, 111, 117, 116, 32, 111, 102, 32, 111, 114, 100, 101, 114])], .agg [.lit (.int .u16 64), .lit (.string [115, 116, 97, 98, 105, 108, 105, 116, 121, 32, 101, 120, 99, 101, 101, 100, 101, 100, 32, 97, 116, 32, 114, 101, 99, 101, 105, 112, 116])], .agg [.lit (.int .u16 128), .lit (.string [115, 116, 97, 98, 105, 108, 105, 116, 121, 32, 101, 120, 99, 101, 101, 100, 101, 100, 32, 97, 116, 32, 116, 101, 115, 116])], .agg [.lit (.int .u16 256), .lit (.string [100, 105, 115, 113, 117, 97, 108, 105, 102, 121, 105, 110, 103, 32, 101, 120, 99, 117, 114, 115, 105, 111, 110])], .agg [.lit (.int .u16 512), .lit (.string [113, 117, 101, 114, 121, 32, 110, 111, 116, 32, 99, 108, 111, 115, 101, 100])]]

/-- 'transferlaw.RealDoesWhatModelDoes': WHATEVER THE INPUT: true; the input reads as it did. -/
def realDoesWhatModelDoesSpec : ChangeSpec := { name := "realDoesWhatModelDoes", fn := fun _ => fun
  | [d] => { results := [.lit (.bool true)], args := [d] }
  | _ => none }
def realDoesWhatModelDoesRow : OpenClaim := { program := "qxb6500666agreatdoor", sum := "d6defb3d2aa4ed4c96b29f03f46eb56b0b96657e1132a32a5baff96ffab56d68", func := "e2e/transferlaw.RealDoesWhatModelDoes", spec := "realDoesWhatModelDoes", unfollowed := true, recurses := true, named := ["e2e/api.grants", "e2e/api.roleNames", "e2e/api.kindNames", "e2e/transfer.handlers", "e2e/transfer.faultText"], plainKeys := false, apart := false, laid := [("e2e/api.grants", laid_e2e_api_grants), ("e2e/api.kindNames", laid_e2e_api_kindNames), ("e2e/api.roleNames", laid_e2e_api_roleNames), ("e2e/transfer.faultText", laid_e2e_transfer_faultText), ("e2e/transfer.handlers", laid_e2e_transfer_handlers)] }
def RealDoesWhatModelDoesSaid : Prop := realDoesWhatModelDoesRow.holds Tryz.pinned (OpenSpec.ofChange realDoesWhatModelDoesSpec)

/-- ITS FALSE NEIGHBOUR: 'it returns false'. Refute it at one input. -/
def realDoesWhatModelDoesWrong : ChangeSpec := { name := "realDoesWhatModelDoes", fn := fun _ => fun
  | [d] => { results := [.lit (.bool false)], args := [d] }
  | _ => none }
def RealDoesWhatModelDoesWrongFalsely : Prop := realDoesWhatModelDoesRow.holds Tryz.pinned (OpenSpec.ofChange realDoesWhatModelDoesWrong)

/-- 'transferlaw.EligibilityIsThePredicate': WHATEVER THE INPUT: true; the input reads as it did. -/
def eligibilityIsThePredicateSpec : ChangeSpec := { name := "eligibilityIsThePredicate", fn := fun _ => fun
  | [d] => { results := [.lit (.bool true)], args := [d] }
  | _ => none }
def eligibilityIsThePredicateRow : OpenClaim := { program := "qxb6500666agreatdoor", sum := "d6defb3d2aa4ed4c96b29f03f46eb56b0b96657e1132a32a5baff96ffab56d68", func := "e2e/transferlaw.EligibilityIsThePredicate", spec := "eligibilityIsThePredicate", unfollowed := true, recurses := true, named := ["e2e/api.grants", "e2e/api.roleNames", "e2e/api.kindNames", "e2e/transfer.handlers", "e2e/transfer.faultText", "e2e/transfer.holdNames"], plainKeys := false, apart := false, laid := [("e2e/api.grants", laid_e2e_api_grants), ("e2e/api.kindNames", laid_e2e_api_kindNames), ("e2e/api.roleNames", laid_e2e_api_roleNames), ("e2e/transfer.holdNames", laid_e2e_transfer_holdNames), ("e2e/transfer.faultText", laid_e2e_transfer_faultText), ("e2e/transfer.handlers", laid_e2e_transfer_handlers)] }
def EligibilityIsThePredicateSaid : Prop := eligibilityIsThePredicateRow.holds Tryz.pinned (OpenSpec.ofChange eligibilityIsThePredicateSpec)

/-- ITS FALSE NEIGHBOUR: 'it returns false'. Refute it at one input. -/
def eligibilityIsThePredicateWrong : ChangeSpec := { name := "eligibilityIsThePredicate", fn := fun _ => fun
  | [d] => { results := [.lit (.bool false)], args := [d] }
  | _ => none }
def EligibilityIsThePredicateWrongFalsely : Prop := eligibilityIsThePredicateRow.holds Tryz.pinned (OpenSpec.ofChange eligibilityIsThePredicateWrong)

/-- 'transferlaw.CorrectionGivesNewRowVersion': WHATEVER THE INPUT: true; the input reads as it did. -/
def correctionGivesNewRowVersionSpec : ChangeSpec := { name := "correctionGivesNewRowVersion", fn := fun _ => fun
  | [d] => { results := [.lit (.bool true)], args := [d] }
  | _ => none }
def correctionGivesNewRowVersionRow : OpenClaim := { program := "qxb6500666agreatdoor", sum := "d6defb3d2aa4ed4c96b29f03f46eb56b0b96657e1132a32a5baff96ffab56d68", func := "e2e/transferlaw.CorrectionGivesNewRowVersion", spec := "correctionGivesNewRowVersion", unfollowed := true, recurses := true, named := ["e2e/api.grants", "e2e/api.roleNames", "e2e/api.kindNames", "e2e/transfer.handlers", "e2e/transfer.faultText"], plainKeys := false, apart := false, laid := [("e2e/api.grants", laid_e2e_api_grants), ("e2e/api.kindNames", laid_e2e_api_kindNames), ("e2e/api.roleNames", laid_e2e_api_roleNames), ("e2e/transfer.faultText", laid_e2e_transfer_faultText), ("e2e/transfer.handlers", laid_e2e_transfer_handlers)] }
def CorrectionGivesNewRowVersionSaid : Prop := correctionGivesNewRowVersionRow.holds Tryz.pinned (OpenSpec.ofChange correctionGivesNewRowVersionSpec)

/-- ITS FALSE NEIGHBOUR: 'it returns false'. Refute it at one input. -/
def correctionGivesNewRowVersionWrong : ChangeSpec := { name := "correctionGivesNewRowVersion", fn := fun _ => fun
  | [d] => { results := [.lit (.bool false)], args := [d] }
  | _ => none }
def CorrectionGivesNewRowVersionWrongFalsely : Prop := correctionGivesNewRowVersionRow.holds Tryz.pinned (OpenSpec.ofChange correctionGivesNewRowVersionWrong)

/-- 'transferlaw.AuditGrowsByOnePerAcceptedCommand': WHATEVER THE INPUT: true; the input reads as it did. -/
def auditGrowsByOnePerAcceptedCommandSpec : ChangeSpec := { name := "auditGrowsByOnePerAcceptedCommand", fn := fun _ => fun
  | [d] => { results := [.lit (.bool true)], args := [d] }
  | _ => none }
def auditGrowsByOnePerAcceptedCommandRow : OpenClaim := { program := "qxb6500666agreatdoor", sum := "d6defb3d2aa4ed4c96b29f03f46eb56b0b96657e1132a32a5baff96ffab56d68", func := "e2e/transferlaw.AuditGrowsByOnePerAcceptedCommand", spec := "auditGrowsByOnePerAcceptedCommand", unfollowed := true, recurses := true, named := ["e2e/api.grants", "e2e/api.roleNames", "e2e/api.kindNames", "e2e/transfer.handlers", "e2e/transfer.faultText"], plainKeys := false, apart := false, laid := [("e2e/api.grants", laid_e2e_api_grants), ("e2e/api.kindNames", laid_e2e_api_kindNames), ("e2e/api.roleNames", laid_e2e_api_roleNames), ("e2e/transfer.faultText", laid_e2e_transfer_faultText), ("e2e/transfer.handlers", laid_e2e_transfer_handlers)] }
def AuditGrowsByOnePerAcceptedCommandSaid : Prop := auditGrowsByOnePerAcceptedCommandRow.holds Tryz.pinned (OpenSpec.ofChange auditGrowsByOnePerAcceptedCommandSpec)

/-- ITS FALSE NEIGHBOUR: 'it returns false'. Refute it at one input. -/
def auditGrowsByOnePerAcceptedCommandWrong : ChangeSpec := { name := "auditGrowsByOnePerAcceptedCommand", fn := fun _ => fun
  | [d] => { results := [.lit (.bool false)], args := [d] }
  | _ => none }
def AuditGrowsByOnePerAcceptedCommandWrongFalsely : Prop := auditGrowsByOnePerAcceptedCommandRow.holds Tryz.pinned (OpenSpec.ofChange auditGrowsByOnePerAcceptedCommandWrong)

/-- 'transferlaw.PermissionComesFirst': WHATEVER THE INPUT: true; the input reads as it did. -/
def permissionComesFirstSpec : ChangeSpec := { name := "permissionComesFirst", fn := fun _ => fun
  | [d] => { results := [.lit (.bool true)], args := [d] }
  | _ => none }
def permissionComesFirstRow : OpenClaim := { program := "qxb6500666agreatdoor", sum := "d6defb3d2aa4ed4c96b29f03f46eb56b0b96657e1132a32a5baff96ffab56d68", func := "e2e/transferlaw.PermissionComesFirst", spec := "permissionComesFirst", unfollowed := true, recurses := true, named := ["e2e/api.grants", "e2e/api.roleNames", "e2e/api.kindNames", "e2e/transfer.handlers", "e2e/transfer.faultText"], plainKeys := false, apart := false, laid := [("e2e/api.grants", laid_e2e_api_grants), ("e2e/api.kindNames", laid_e2e_api_kindNames), ("e2e/api.roleNames", laid_e2e_api_roleNames), ("e2e/transfer.faultText", laid_e2e_transfer_faultText), ("e2e/transfer.handlers", laid_e2e_transfer_handlers)] }
def PermissionComesFirstSaid : Prop := permissionComesFirstRow.holds Tryz.pinned (OpenSpec.ofChange permissionComesFirstSpec)

/-- ITS FALSE NEIGHBOUR: 'it returns false'. Refute it at one input. -/
def permissionComesFirstWrong : ChangeSpec := { name := "permissionComesFirst", fn := fun _ => fun
  | [d] => { results := [.lit (.bool false)], args := [d] }
  | _ => none }
def PermissionComesFirstWrongFalsely : Prop := permissionComesFirstRow.holds Tryz.pinned (OpenSpec.ofChange permissionComesFirstWrong)

/-- 'transferlaw.RefusalsChangeNothing': WHATEVER THE INPUT: true; the input reads as it did. -/
def refusalsChangeNothingSpec : ChangeSpec := { name := "refusalsChangeNothing", fn := fun _ => fun
  | [d] => { results := [.lit (.bool true)], args := [d] }
  | _ => none }
def refusalsChangeNothingRow : OpenClaim := { program := "qxb6500666agreatdoor", sum := "d6defb3d2aa4ed4c96b29f03f46eb56b0b96657e1132a32a5baff96ffab56d68", func := "e2e/transferlaw.RefusalsChangeNothing", spec := "refusalsChangeNothing", unfollowed := true, recurses := true, named := ["e2e/api.grants", "e2e/api.roleNames", "e2e/api.kindNames", "e2e/transfer.handlers", "e2e/transfer.faultText"], plainKeys := false, apart := false, laid := [("e2e/api.grants", laid_e2e_api_grants), ("e2e/api.kindNames", laid_e2e_api_kindNames), ("e2e/api.roleNames", laid_e2e_api_roleNames), ("e2e/transfer.faultText", laid_e2e_transfer_faultText), ("e2e/transfer.handlers", laid_e2e_transfer_handlers)] }
def RefusalsChangeNothingSaid : Prop := refusalsChangeNothingRow.holds Tryz.pinned (OpenSpec.ofChange refusalsChangeNothingSpec)

/-- ITS FALSE NEIGHBOUR: 'it returns false'. Refute it at one input. -/
def refusalsChangeNothingWrong : ChangeSpec := { name := "refusalsChangeNothing", fn := fun _ => fun
  | [d] => { results := [.lit (.bool false)], args := [d] }
  | _ => none }
def RefusalsChangeNothingWrongFalsely : Prop := refusalsChangeNothingRow.holds Tryz.pinned (OpenSpec.ofChange refusalsChangeNothingWrong)

/-- 'transferlaw.IssuedRowsAreJustified': WHATEVER THE INPUT: true; the input reads as it did. -/
def issuedRowsAreJustifiedSpec : ChangeSpec := { name := "issuedRowsAreJustified", fn := fun _ => fun
  | [d] => { results := [.lit (.bool true)], args := [d] }
  | _ => none }
def issuedRowsAreJustifiedRow : OpenClaim := { program := "qxb6500666agreatdoor", sum := "d6defb3d2aa4ed4c96b29f03f46eb56b0b96657e1132a32a5baff96ffab56d68", func := "e2e/transferlaw.IssuedRowsAreJustified", spec := "issuedRowsAreJustified", unfollowed := true, recurses := true, named := ["e2e/api.grants", "e2e/api.roleNames", "e2e/api.kindNames", "e2e/transfer.handlers", "e2e/transfer.faultText"], plainKeys := false, apart := false, laid := [("e2e/api.grants", laid_e2e_api_grants), ("e2e/api.kindNames", laid_e2e_api_kindNames), ("e2e/api.roleNames", laid_e2e_api_roleNames), ("e2e/transfer.faultText", laid_e2e_transfer_faultText), ("e2e/transfer.handlers", laid_e2e_transfer_handlers)] }
def IssuedRowsAreJustifiedSaid : Prop := issuedRowsAreJustifiedRow.holds Tryz.pinned (OpenSpec.ofChange issuedRowsAreJustifiedSpec)

/-- ITS FALSE NEIGHBOUR: 'it returns false'. Refute it at one input. -/
def issuedRowsAreJustifiedWrong : ChangeSpec := { name := "issuedRowsAreJustified", fn := fun _ => fun
  | [d] => { results := [.lit (.bool false)], args := [d] }
  | _ => none }
def IssuedRowsAreJustifiedWrongFalsely : Prop := issuedRowsAreJustifiedRow.holds Tryz.pinned (OpenSpec.ofChange issuedRowsAreJustifiedWrong)

/-- 'transferlaw.IssuedFilesParseToModelRows': WHATEVER THE INPUT: true; the input reads as it did. -/
def issuedFilesParseToModelRowsSpec : ChangeSpec := { name := "issuedFilesParseToModelRows", fn := fun _ => fun
  | [d] => { results := [.lit (.bool true)], args := [d] }
  | _ => none }
def issuedFilesParseToModelRowsRow : OpenClaim := { program := "qxb6500666agreatdoor", sum := "d6defb3d2aa4ed4c96b29f03f46eb56b0b96657e1132a32a5baff96ffab56d68", func := "e2e/transferlaw.IssuedFilesParseToModelRows", spec := "issuedFilesParseToModelRows", unfollowed := true, recurses := true, named := ["e2e/api.grants", "e2e/api.roleNames", "e2e/api.kindNames", "e2e/transfer.handlers", "e2e/transfer.faultText"], plainKeys := false, apart := false, laid := [("e2e/api.grants", laid_e2e_api_grants), ("e2e/api.kindNames", laid_e2e_api_kindNames), ("e2e/api.roleNames", laid_e2e_api_roleNames), ("e2e/transfer.faultText", laid_e2e_transfer_faultText), ("e2e/transfer.handlers", laid_e2e_transfer_handlers)] }
def IssuedFilesParseToModelRowsSaid : Prop := issuedFilesParseToModelRowsRow.holds Tryz.pinned (OpenSpec.ofChange issuedFilesParseToModelRowsSpec)

/-- ITS FALSE NEIGHBOUR: 'it returns false'. Refute it at one input. -/
def issuedFilesParseToModelRowsWrong : ChangeSpec := { name := "issuedFilesParseToModelRows", fn := fun _ => fun
  | [d] => { results := [.lit (.bool false)], args := [d] }
  | _ => none }
def IssuedFilesParseToModelRowsWrongFalsely : Prop := issuedFilesParseToModelRowsRow.holds Tryz.pinned (OpenSpec.ofChange issuedFilesParseToModelRowsWrong)

/-- 'transferlaw.ParsersAcceptOnlyRenderings': WHATEVER THE INPUT: true; the input reads as it did. -/
def parsersAcceptOnlyRenderingsSpec : ChangeSpec := { name := "parsersAcceptOnlyRenderings", fn := fun _ => fun
  | [d] => { results := [.lit (.bool true)], args := [d] }
  | _ => none }
def parsersAcceptOnlyRenderingsRow : OpenClaim := { program := "qxb6500666agreatdoor", sum := "d6defb3d2aa4ed4c96b29f03f46eb56b0b96657e1132a32a5baff96ffab56d68", func := "e2e/transferlaw.ParsersAcceptOnlyRenderings", spec := "parsersAcceptOnlyRenderings", unfollowed := true, recurses := true, named := ["e2e/api.grants", "e2e/api.roleNames", "e2e/api.kindNames", "e2e/transfer.handlers", "e2e/transfer.faultText"], plainKeys := false, apart := false, laid := [("e2e/api.grants", laid_e2e_api_grants), ("e2e/api.kindNames", laid_e2e_api_kindNames), ("e2e/api.roleNames", laid_e2e_api_roleNames), ("e2e/transfer.faultText", laid_e2e_transfer_faultText), ("e2e/transfer.handlers", laid_e2e_transfer_handlers)] }
def ParsersAcceptOnlyRenderingsSaid : Prop := parsersAcceptOnlyRenderingsRow.holds Tryz.pinned (OpenSpec.ofChange parsersAcceptOnlyRenderingsSpec)

/-- ITS FALSE NEIGHBOUR: 'it returns false'. Refute it at one input. -/
def parsersAcceptOnlyRenderingsWrong : ChangeSpec := { name := "parsersAcceptOnlyRenderings", fn := fun _ => fun
  | [d] => { results := [.lit (.bool false)], args := [d] }
  | _ => none }
def ParsersAcceptOnlyRenderingsWrongFalsely : Prop := parsersAcceptOnlyRenderingsRow.holds Tryz.pinned (OpenSpec.ofChange parsersAcceptOnlyRenderingsWrong)

/-- 'transferlaw.CumulativeIsPrecedingPlusIncrementals': WHATEVER THE INPUT: true; the input reads as it did. -/
def cumulativeIsPrecedingPlusIncrementalsSpec : ChangeSpec := { name := "cumulativeIsPrecedingPlusIncrementals", fn := fun _ => fun
  | [d] => { results := [.lit (.bool true)], args := [d] }
  | _ => none }
def cumulativeIsPrecedingPlusIncrementalsRow : OpenClaim := { program := "qxb6500666agreatdoor", sum := "d6defb3d2aa4ed4c96b29f03f46eb56b0b96657e1132a32a5baff96ffab56d68", func := "e2e/transferlaw.CumulativeIsPrecedingPlusIncrementals", spec := "cumulativeIsPrecedingPlusIncrementals", unfollowed := true, recurses := true, named := ["e2e/api.grants", "e2e/api.roleNames", "e2e/api.kindNames", "e2e/transfer.handlers", "e2e/transfer.faultText"], plainKeys := false, apart := false, laid := [("e2e/api.grants", laid_e2e_api_grants), ("e2e/api.kindNames", laid_e2e_api_kindNames), ("e2e/api.roleNames", laid_e2e_api_roleNames), ("e2e/transfer.faultText", laid_e2e_transfer_faultText), ("e2e/transfer.handlers", laid_e2e_transfer_handlers)] }
def CumulativeIsPrecedingPlusIncrementalsSaid : Prop := cumulativeIsPrecedingPlusIncrementalsRow.holds Tryz.pinned (OpenSpec.ofChange cumulativeIsPrecedingPlusIncrementalsSpec)

/-- ITS FALSE NEIGHBOUR: 'it returns false'. Refute it at one input. -/
def cumulativeIsPrecedingPlusIncrementalsWrong : ChangeSpec := { name := "cumulativeIsPrecedingPlusIncrementals", fn := fun _ => fun
  | [d] => { results := [.lit (.bool false)], args := [d] }
  | _ => none }
def CumulativeIsPrecedingPlusIncrementalsWrongFalsely : Prop := cumulativeIsPrecedingPlusIncrementalsRow.holds Tryz.pinned (OpenSpec.ofChange cumulativeIsPrecedingPlusIncrementalsWrong)

/-- 'transferlaw.LedgerRefusesTamperedFiles': WHATEVER THE INPUT: true; the input reads as it did. -/
def ledgerRefusesTamperedFilesSpec : ChangeSpec := { name := "ledgerRefusesTamperedFiles", fn := fun _ => fun
  | [d] => { results := [.lit (.bool true)], args := [d] }
  | _ => none }
def ledgerRefusesTamperedFilesRow : OpenClaim := { program := "qxb6500666agreatdoor", sum := "d6defb3d2aa4ed4c96b29f03f46eb56b0b96657e1132a32a5baff96ffab56d68", func := "e2e/transferlaw.LedgerRefusesTamperedFiles", spec := "ledgerRefusesTamperedFiles", unfollowed := true, recurses := true, named := ["e2e/api.grants", "e2e/api.roleNames", "e2e/api.kindNames", "e2e/transfer.handlers", "e2e/transfer.faultText"], plainKeys := false, apart := false, laid := [("e2e/api.grants", laid_e2e_api_grants), ("e2e/api.kindNames", laid_e2e_api_kindNames), ("e2e/api.roleNames", laid_e2e_api_roleNames), ("e2e/transfer.faultText", laid_e2e_transfer_faultText), ("e2e/transfer.handlers", laid_e2e_transfer_handlers)] }
def LedgerRefusesTamperedFilesSaid : Prop := ledgerRefusesTamperedFilesRow.holds Tryz.pinned (OpenSpec.ofChange ledgerRefusesTamperedFilesSpec)

/-- ITS FALSE NEIGHBOUR: 'it returns false'. Refute it at one input. -/
def ledgerRefusesTamperedFilesWrong : ChangeSpec := { name := "ledgerRefusesTamperedFiles", fn := fun _ => fun
  | [d] => { results := [.lit (.bool false)], args := [d] }
  | _ => none }
def LedgerRefusesTamperedFilesWrongFalsely : Prop := ledgerRefusesTamperedFilesRow.holds Tryz.pinned (OpenSpec.ofChange ledgerRefusesTamperedFilesWrong)

/-- 'transferlaw.ReconciliationListsSetDifferences': WHATEVER THE INPUT: true; the input reads as it did. -/
def reconciliationListsSetDifferencesSpec : ChangeSpec := { name := "reconciliationListsSetDifferences", fn := fun _ => fun
  | [d] => { results := [.lit (.bool true)], args := [d] }
  | _ => none }
def reconciliationListsSetDifferencesRow : OpenClaim := { program := "qxb6500666agreatdoor", sum := "d6defb3d2aa4ed4c96b29f03f46eb56b0b96657e1132a32a5baff96ffab56d68", func := "e2e/transferlaw.ReconciliationListsSetDifferences", spec := "reconciliationListsSetDifferences", unfollowed := true, recurses := true, named := ["e2e/api.grants", "e2e/api.roleNames", "e2e/api.kindNames", "e2e/transfer.handlers", "e2e/transfer.faultText"], plainKeys := false, apart := false, laid := [("e2e/api.grants", laid_e2e_api_grants), ("e2e/api.kindNames", laid_e2e_api_kindNames), ("e2e/api.roleNames", laid_e2e_api_roleNames), ("e2e/transfer.faultText", laid_e2e_transfer_faultText), ("e2e/transfer.handlers", laid_e2e_transfer_handlers)] }
def ReconciliationListsSetDifferencesSaid : Prop := reconciliationListsSetDifferencesRow.holds Tryz.pinned (OpenSpec.ofChange reconciliationListsSetDifferencesSpec)

/-- ITS FALSE NEIGHBOUR: 'it returns false'. Refute it at one input. -/
def reconciliationListsSetDifferencesWrong : ChangeSpec := { name := "reconciliationListsSetDifferences", fn := fun _ => fun
  | [d] => { results := [.lit (.bool false)], args := [d] }
  | _ => none }
def ReconciliationListsSetDifferencesWrongFalsely : Prop := reconciliationListsSetDifferencesRow.holds Tryz.pinned (OpenSpec.ofChange reconciliationListsSetDifferencesWrong)

/-- 'transferlaw.StateSurvivesACrash': WHATEVER THE INPUT: true; the input reads as it did. -/
def stateSurvivesACrashSpec : ChangeSpec := { name := "stateSurvivesACrash", fn := fun _ => fun
  | [d] => { results := [.lit (.bool true)], args := [d] }
  | _ => none }
def stateSurvivesACrashRow : OpenClaim := { program := "qxb6500666agreatdoor", sum := "d6defb3d2aa4ed4c96b29f03f46eb56b0b96657e1132a32a5baff96ffab56d68", func := "e2e/transferlaw.StateSurvivesACrash", spec := "stateSurvivesACrash", unfollowed := true, recurses := true, named := ["e2e/api.grants", "e2e/api.roleNames", "e2e/api.kindNames", "e2e/transfer.handlers", "e2e/transfer.faultText"], plainKeys := false, apart := false, laid := [("e2e/api.grants", laid_e2e_api_grants), ("e2e/api.kindNames", laid_e2e_api_kindNames), ("e2e/api.roleNames", laid_e2e_api_roleNames), ("e2e/transfer.faultText", laid_e2e_transfer_faultText), ("e2e/transfer.handlers", laid_e2e_transfer_handlers)] }
def StateSurvivesACrashSaid : Prop := stateSurvivesACrashRow.holds Tryz.pinned (OpenSpec.ofChange stateSurvivesACrashSpec)

/-- ITS FALSE NEIGHBOUR: 'it returns false'. Refute it at one input. -/
def stateSurvivesACrashWrong : ChangeSpec := { name := "stateSurvivesACrash", fn := fun _ => fun
  | [d] => { results := [.lit (.bool false)], args := [d] }
  | _ => none }
def StateSurvivesACrashWrongFalsely : Prop := stateSurvivesACrashRow.holds Tryz.pinned (OpenSpec.ofChange stateSurvivesACrashWrong)

/-- 'transferlaw.DamagedStoreIsSurvived': WHATEVER THE INPUT: true; the input reads as it did. -/
def damagedStoreIsSurvivedSpec : ChangeSpec := { name := "damagedStoreIsSurvived", fn := fun _ => fun
  | [d] => { results := [.lit (.bool true)], args := [d] }
  | _ => none }
def damagedStoreIsSurvivedRow : OpenClaim := { program := "qxb6500666agreatdoor", sum := "d6defb3d2aa4ed4c96b29f03f46eb56b0b96657e1132a32a5baff96ffab56d68", func := "e2e/transferlaw.DamagedStoreIsSurvived", spec := "damagedStoreIsSurvived", unfollowed := true, recurses := true, named := ["e2e/api.grants", "e2e/api.roleNames", "e2e/api.kindNames", "e2e/transfer.handlers", "e2e/transfer.faultText"], plainKeys := false, apart := false, laid := [("e2e/api.grants", laid_e2e_api_grants), ("e2e/api.kindNames", laid_e2e_api_kindNames), ("e2e/api.roleNames", laid_e2e_api_roleNames), ("e2e/transfer.faultText", laid_e2e_transfer_faultText), ("e2e/transfer.handlers", laid_e2e_transfer_handlers)] }
def DamagedStoreIsSurvivedSaid : Prop := damagedStoreIsSurvivedRow.holds Tryz.pinned (OpenSpec.ofChange damagedStoreIsSurvivedSpec)

/-- ITS FALSE NEIGHBOUR: 'it returns false'. Refute it at one input. -/
def damagedStoreIsSurvivedWrong : ChangeSpec := { name := "damagedStoreIsSurvived", fn := fun _ => fun
  | [d] => { results := [.lit (.bool false)], args := [d] }
  | _ => none }
def DamagedStoreIsSurvivedWrongFalsely : Prop := damagedStoreIsSurvivedRow.holds Tryz.pinned (OpenSpec.ofChange damagedStoreIsSurvivedWrong)

/-- 'transferlaw.BatchesFitTheStore': WHATEVER THE INPUT: true; the input reads as it did. -/
def batchesFitTheStoreSpec : ChangeSpec := { name := "batchesFitTheStore", fn := fun _ => fun
  | [d] => { results := [.lit (.bool true)], args := [d] }
  | _ => none }
def batchesFitTheStoreRow : OpenClaim := { program := "qxb6500666agreatdoor", sum := "d6defb3d2aa4ed4c96b29f03f46eb56b0b96657e1132a32a5baff96ffab56d68", func := "e2e/transferlaw.BatchesFitTheStore", spec := "batchesFitTheStore", unfollowed := true, recurses := true, named := ["e2e/api.grants", "e2e/api.roleNames", "e2e/api.kindNames", "e2e/transfer.handlers", "e2e/transfer.faultText"], plainKeys := false, apart := false, laid := [("e2e/api.grants", laid_e2e_api_grants), ("e2e/api.kindNames", laid_e2e_api_kindNames), ("e2e/api.roleNames", laid_e2e_api_roleNames), ("e2e/transfer.faultText", laid_e2e_transfer_faultText), ("e2e/transfer.handlers", laid_e2e_transfer_handlers)] }
def BatchesFitTheStoreSaid : Prop := batchesFitTheStoreRow.holds Tryz.pinned (OpenSpec.ofChange batchesFitTheStoreSpec)

/-- ITS FALSE NEIGHBOUR: 'it returns false'. Refute it at one input. -/
def batchesFitTheStoreWrong : ChangeSpec := { name := "batchesFitTheStore", fn := fun _ => fun
  | [d] => { results := [.lit (.bool false)], args := [d] }
  | _ => none }
def BatchesFitTheStoreWrongFalsely : Prop := batchesFitTheStoreRow.holds Tryz.pinned (OpenSpec.ofChange batchesFitTheStoreWrong)

end Rows
end Go.Proofs.Qxb6500666aGreatDoor
