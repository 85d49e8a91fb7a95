/-
  NARROWER THAN 'FOR EVERY INPUT', by the rows' own cells (each row's printed sentence says how): ParseInvertsRender: laid · ApplyDifferAndReconcileAgree: laid · PermissionTableIsSound: laid.
  DERIVED. THE GIVEN ROWS OF THIS SEAT. 3 by the template 'for every input the law returns true; each argument reads behind the call as it read before'; 0 by the template 'total and deterministic' (their statements: Qxb6500666aDoorTotals.lean).
  GIVEN WITH THE SEED: the statements are not yours to turn. If you find one false, say at which input.
  Laid BY PROGRAM, IN A SANDBOX (cutbox-rows.mjs): the forced cells as the released guide's own fill.sh prints them over the translation 5c2b0e150268e51b… (all of the seat's roots in one cut). By AI agents, Wed Nov 11 2026. No macro, syntax, notation, axiom, sorry.
-/
import Derived.Test.Qxb6500666aDoorChecked
import GoSem.Claim
import GoSem.ClaimJoined
import GoSem.ClaimMapViews
import Derived.JoinedTies
import Derived.KernelRfl
namespace Go.Proofs.Qxb6500666aDoor
/- THE CELL 'sum', in the pinned program and in every row, IS THE sha256 OF THE DUMP (.gsa) THAT Qxb6500666aDoorProg.lean LOADS. Nothing in Lean hashes anything: it is a label: what it is worth is what the hold of that sum in a sandbox is worth. -/
noncomputable def Tryd.pinned : Pinned := { name := "qxb6500666adoor", sum := "5c2b0e150268e51b0eb0d5bd47e008e78c09468b3f32fea1ad94ffd6ea851462", checked := Tryd.checked }
namespace Rows
def none {H : Type} : Left H := { results := [], args := [] }

/- WHAT THE LISTED PACKAGE-LEVEL VARIABLES READ AS WHEN THE CALL BEGINS. Each datum BY PROGRAM (the guide's laid-datum.mjs) off the statement by which the dump's own 'gosem.cut.vars' lays the variable. In a bare row this is a premise. The card (Qxb6500666aDoorCards.lean) ties it to the program's text. -/
def laid_e2e_transfer_faultText {H : Type} : DataW H := .agg [.lit (.string []), .lit (.string [108, 105, 110, 101, 32, 109, 105, 115, 115, 105, 110, 103, 32, 111, 114, 32, 117, 110, 102, 105, 110, 105, 115, 104, 101, 100]), .lit (.string [119, 114, 111, 110, 103, 32, 110, 117, 109, 98, 101, 114, 32, 111, 102, 32, 102, 105, 101, 108, 100, 115]), .lit (.string [117, 110, 107, 110, 111, 119, 110, 32, 108, 101, 116, 116, 101, 114]), .lit (.string [98, 97, 100, 32, 110, 117, 109, 98, 101, 114]), .lit (.string [108, 105, 110, 101, 115, 32, 109, 97, 107, 101, 32, 110, 111, 32, 102, 105, 108, 101]), .lit (.string [99, 111, 117, 110, 116, 115, 32, 100, 105, 115, 97, 103, 114, 101, 101]), .lit (.string [99, 104, 101, 99, 107, 115, 117, 109, 32, 109, 105, 115, 109, 97, 116, 99, 104]), .lit (.string [98, 121, 116, 101, 115, 32, 97, 102, 116, 101, 114, 32, 116, 104, 101, 32, 116, 114, 97, 105, 108, 101, 114])]
def laid_e2e_api_grants {H : Type} : DataW H := .agg [.nil, .slice [.lit (.int .u8 1)] [], .slice [.lit (.int .u8 1)] [], .slice [.lit (.int .u8 2)] [], .slice [.lit (.int .u8 2)] [], .slice [.lit (.int .u8 2)] [], .slice [.lit (.int .u8 2), .lit (.int .u8 5)] [], .slice [.lit (.int .u8 3)] [], .slice [.lit (.int .u8 3)] [], .slice [.lit (.int .u8 4)] [], .slice [.lit (.int .u8 4), .lit (.int .u8 3)] [], .slice [.lit (.int .u8 5)] [], .slice [.lit (.int .u8 4)] [], .slice [.lit (.int .u8 4)] [], .slice [.lit (.int .u8 4), .lit (.int .u8 5)] [], .slice [.lit (.int .u8 5), .lit (.int .u8 4)] [], .slice [.lit (.int .u8 5)] [], .slice [.lit (.int .u8 5)] [], .slice [.lit (.int .u8 5)] [], .slice [.lit (.int .u8 5)] [], .slice [.lit (.int .u8 5)] [], .slice [.lit (.int .u8 1), .lit (.int .u8 6)] [], .slice [.lit (.int .u8 1), .lit (.int .u8 2), .lit (.int .u8 3), .lit (.int .u8 4), .lit (.int .u8 5), .lit (.int .u8 6)] [], .slice [.lit (.int .u8 1), .lit (.int .u8 6)] [], .slice [.lit (.int .u8 1), .lit (.int .u8 4), .lit (.int .u8 5), .lit (.int .u8 6)] [], .slice [.lit (.int .u8 1), .lit (.int .u8 5), .lit (.int .u8 6)] [], .slice [.lit (.int .u8 1), .lit (.int .u8 5), .lit (.int .u8 6)] [], .slice [.lit (.int .u8 1), .lit (.int .u8 5), .lit (.int .u8 6)] [], .slice [.lit (.int .u8 1), .lit (.int .u8 5), .lit (.int .u8 6)] [], .slice [.lit (.int .u8 1), .lit (.int .u8 4), .lit (.int .u8 5), .lit (.int .u8 6)] [], .slice [.lit (.int .u8 1), .lit (.int .u8 6)] []]
def laid_e2e_api_kindNames {H : Type} : DataW H := .agg [.lit (.string []), .lit (.string [97, 100, 100, 45, 117, 115, 101, 114]), .lit (.string [114, 101, 118, 111, 107, 101, 45, 117, 115, 101, 114]), .lit (.string [100, 101, 102, 105, 110, 101, 45, 97, 110, 97, 108, 121, 116, 101]), .lit (.string [97, 109, 101, 110, 100]), .lit (.string [97, 100, 100, 45, 115, 105, 116, 101]), .lit (.string [101, 110, 114, 111, 108]), .lit (.string [98, 117, 105, 108, 100, 45, 107, 105, 116]), .lit (.string [115, 104, 105, 112, 45, 107, 105, 116]), .lit (.string [97, 99, 99, 101, 115, 115, 105, 111, 110]), .lit (.string [114, 101, 99, 111, 114, 100, 45, 101, 120, 99, 117, 114, 115, 105, 111, 110]), .lit (.string [99, 111, 114, 114, 101, 99, 116, 45, 99, 111, 108, 108, 101, 99, 116, 105, 111, 110]), .lit (.string [101, 110, 116, 101, 114, 45, 114, 101, 115, 117, 108, 116]), .lit (.string [99, 111, 114, 114, 101, 99, 116, 45, 114, 101, 115, 117, 108, 116]), .lit (.string [119, 105, 116, 104, 100, 114, 97, 119, 45, 114, 101, 115, 117, 108, 116]), .lit (.string [114, 97, 105, 115, 101, 45, 113, 117, 101, 114, 121]), .lit (.string [97, 110, 115, 119, 101, 114, 45, 113, 117, 101, 114, 121]), .lit (.string [99, 108, 111, 115, 101, 45, 113, 117, 101, 114, 121]), .lit (.string [114, 101, 111, 112, 101, 110, 45, 113, 117, 101, 114, 121]), .lit (.string [105, 115, 115, 117, 101, 45, 105, 110, 99, 114, 101, 109, 101, 110, 116, 97, 108]), .lit (.string [105, 115, 115, 117, 101, 45, 99, 117, 109, 117, 108, 97, 116, 105, 118, 101]), .lit (.string [114, 101, 97, 100, 45, 117, 115, 101, 114]), .lit (.string [114, 101, 97, 100, 45, 115, 116, 97, 116, 117, 115]), .lit (.string [114, 101, 97, 100, 45, 97, 117, 100, 105, 116]), .lit (.string [114, 101, 97, 100, 45, 101, 108, 105, 103, 105, 98, 105, 108, 105, 116, 121]), .lit (.string [114, 101, 97, 100, 45, 112, 101, 110, 100, 105, 110, 103]), .lit (.string [114, 101, 97, 100, 45, 104, 101, 97, 100, 101, 114]), .lit (.string [114, 101, 97, 100, 45, 102, 105, 108, 101]), .lit (.string [114, 101, 97, 100, 45, 114, 101, 99, 111, 110, 99, 105, 108, 105, 97, 116, 105, 111, 110]), .lit (.string [114, 101, 97, 100, 45, 104, 101, 108, 100]), .lit (.string [114, 101, 97, 100, 45, 116, 114, 97, 105, 108])]

/-- 'transferlaw.ParseInvertsRender': WHATEVER THE INPUT: true; the input reads as it did. -/
def parseInvertsRenderSpec : ChangeSpec := { name := "parseInvertsRender", fn := fun _ => fun
  | [d] => { results := [.lit (.bool true)], args := [d] }
  | _ => none }
def parseInvertsRenderRow : OpenClaim := { program := "qxb6500666adoor", sum := "5c2b0e150268e51b0eb0d5bd47e008e78c09468b3f32fea1ad94ffd6ea851462", func := "e2e/transferlaw.ParseInvertsRender", spec := "parseInvertsRender", named := ["e2e/transfer.faultText"], plainKeys := false, apart := false, laid := [("e2e/transfer.faultText", laid_e2e_transfer_faultText)] }
def ParseInvertsRenderSaid : Prop := parseInvertsRenderRow.holds Tryd.pinned (OpenSpec.ofChange parseInvertsRenderSpec)

/-- ITS FALSE NEIGHBOUR: 'it returns false'. Refute it at one input. -/
def parseInvertsRenderWrong : ChangeSpec := { name := "parseInvertsRender", fn := fun _ => fun
  | [d] => { results := [.lit (.bool false)], args := [d] }
  | _ => none }
def ParseInvertsRenderWrongFalsely : Prop := parseInvertsRenderRow.holds Tryd.pinned (OpenSpec.ofChange parseInvertsRenderWrong)

/-- 'transferlaw.ApplyDifferAndReconcileAgree': WHATEVER THE INPUT: true; the input reads as it did. -/
def applyDifferAndReconcileAgreeSpec : ChangeSpec := { name := "applyDifferAndReconcileAgree", fn := fun _ => fun
  | [d] => { results := [.lit (.bool true)], args := [d] }
  | _ => none }
def applyDifferAndReconcileAgreeRow : OpenClaim := { program := "qxb6500666adoor", sum := "5c2b0e150268e51b0eb0d5bd47e008e78c09468b3f32fea1ad94ffd6ea851462", func := "e2e/transferlaw.ApplyDifferAndReconcileAgree", spec := "applyDifferAndReconcileAgree", unfollowed := true, recurses := true, named := ["e2e/transfer.faultText"], plainKeys := false, apart := false, laid := [("e2e/transfer.faultText", laid_e2e_transfer_faultText)] }
def ApplyDifferAndReconcileAgreeSaid : Prop := applyDifferAndReconcileAgreeRow.holds Tryd.pinned (OpenSpec.ofChange applyDifferAndReconcileAgreeSpec)

/-- ITS FALSE NEIGHBOUR: 'it returns false'. Refute it at one input. -/
def applyDifferAndReconcileAgreeWrong : ChangeSpec := { name := "applyDifferAndReconcileAgree", fn := fun _ => fun
  | [d] => { results := [.lit (.bool false)], args := [d] }
  | _ => none }
def ApplyDifferAndReconcileAgreeWrongFalsely : Prop := applyDifferAndReconcileAgreeRow.holds Tryd.pinned (OpenSpec.ofChange applyDifferAndReconcileAgreeWrong)

/-- 'transferlaw.PermissionTableIsSound': WHATEVER THE INPUT: true; the input reads as it did. -/
def permissionTableIsSoundSpec : ChangeSpec := { name := "permissionTableIsSound", fn := fun _ => fun
  | [] => { results := [.lit (.bool true)], args := [] }
  | _ => none }
def permissionTableIsSoundRow : OpenClaim := { program := "qxb6500666adoor", sum := "5c2b0e150268e51b0eb0d5bd47e008e78c09468b3f32fea1ad94ffd6ea851462", func := "e2e/transferlaw.PermissionTableIsSound", spec := "permissionTableIsSound", named := ["e2e/api.grants", "e2e/api.kindNames"], plainKeys := false, apart := false, laid := [("e2e/api.grants", laid_e2e_api_grants), ("e2e/api.kindNames", laid_e2e_api_kindNames)] }
def PermissionTableIsSoundSaid : Prop := permissionTableIsSoundRow.holds Tryd.pinned (OpenSpec.ofChange permissionTableIsSoundSpec)

/-- ITS FALSE NEIGHBOUR: 'it returns false'. Refute it at one input. -/
def permissionTableIsSoundWrong : ChangeSpec := { name := "permissionTableIsSound", fn := fun _ => fun
  | [] => { results := [.lit (.bool false)], args := [] }
  | _ => none }
def PermissionTableIsSoundWrongFalsely : Prop := permissionTableIsSoundRow.holds Tryd.pinned (OpenSpec.ofChange permissionTableIsSoundWrong)

end Rows
end Go.Proofs.Qxb6500666aDoor
