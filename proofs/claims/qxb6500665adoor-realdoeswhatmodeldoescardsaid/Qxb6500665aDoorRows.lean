/-
  NARROWER THAN 'FOR EVERY INPUT', by the rows' own cells (each row's printed sentence says how): RealDoesWhatModelDoes: laid · StateLivesInTheStore: laid.
  DERIVED. THE GIVEN ROWS OF THIS SEAT. 2 by the template 'for every input the law returns true; each argument reads behind the call as it read before'; 0 by the template 'total and deterministic' (their statements: Qxb6500665aDoorTotals.lean).
  GIVEN WITH THE SEED: the statements are not yours to turn. If you find one false, say at which input.
  Laid BY PROGRAM, IN A SANDBOX (cutbox-rows.mjs): the forced cells as the released guide's own fill.sh prints them over the translation d5cb83eb782d0c20… (all of the seat's roots in one cut). By AI agents, Wed Nov 11 2026. No macro, syntax, notation, axiom, sorry.
-/
import Derived.Test.Qxb6500665aDoorChecked
import GoSem.Claim
import GoSem.ClaimJoined
import GoSem.ClaimMapViews
import Derived.JoinedTies
import Derived.KernelRfl
namespace Go.Proofs.Qxb6500665aDoor
/- THE CELL 'sum', in the pinned program and in every row, IS THE sha256 OF THE DUMP (.gsa) THAT Qxb6500665aDoorProg.lean LOADS. Nothing in Lean hashes anything: it is a label: what it is worth is what the hold of that sum in a sandbox is worth. -/
noncomputable def Tryd.pinned : Pinned := { name := "qxb6500665adoor", sum := "d5cb83eb782d0c205fbe7b7fc45fcd72b46113aae76d49f33f9b322dc1504252", checked := Tryd.checked }
namespace Rows
def none {H : Type} : Left H := { results := [], args := [] }

/- WHAT THE LISTED PACKAGE-LEVEL VARIABLES READ AS WHEN THE CALL BEGINS. Each datum BY PROGRAM (the guide's laid-datum.mjs) off the statement by which the dump's own 'gosem.cut.vars' lays the variable. In a bare row this is a premise. The card (Qxb6500665aDoorCards.lean) ties it to the program's text. -/
def laid_e2e_protocollaw_queryKinds {H : Type} : DataW H := .slice [.lit (.int .u8 6), .lit (.int .u8 7), .lit (.int .u8 8), .lit (.int .u8 9), .lit (.int .u8 10), .lit (.int .u8 11), .lit (.int .u8 12), .lit (.int .u8 13), .lit (.int .u8 14), .lit (.int .u8 15)] []

/-- 'protocollaw.RealDoesWhatModelDoes': WHATEVER THE INPUT: true; the input reads as it did. -/
def realDoesWhatModelDoesSpec : ChangeSpec := { name := "realDoesWhatModelDoes", fn := fun _ => fun
  | [d] => { results := [.lit (.bool true)], args := [d] }
  | _ => none }
def realDoesWhatModelDoesRow : OpenClaim := { program := "qxb6500665adoor", sum := "d5cb83eb782d0c205fbe7b7fc45fcd72b46113aae76d49f33f9b322dc1504252", func := "e2e/protocollaw.RealDoesWhatModelDoes", spec := "realDoesWhatModelDoes", unfollowed := true, recurses := true, named := ["e2e/protocollaw.queryKinds"], apart := false, laid := [("e2e/protocollaw.queryKinds", laid_e2e_protocollaw_queryKinds)] }
def RealDoesWhatModelDoesSaid : Prop := realDoesWhatModelDoesRow.holds Tryd.pinned (OpenSpec.ofChange realDoesWhatModelDoesSpec)

/-- ITS FALSE NEIGHBOUR: 'it returns false'. Refute it at one input. -/
def realDoesWhatModelDoesWrong : ChangeSpec := { name := "realDoesWhatModelDoes", fn := fun _ => fun
  | [d] => { results := [.lit (.bool false)], args := [d] }
  | _ => none }
def RealDoesWhatModelDoesWrongFalsely : Prop := realDoesWhatModelDoesRow.holds Tryd.pinned (OpenSpec.ofChange realDoesWhatModelDoesWrong)

/-- 'protocollaw.StateLivesInTheStore': WHATEVER THE INPUT: true; the input reads as it did. -/
def stateLivesInTheStoreSpec : ChangeSpec := { name := "stateLivesInTheStore", fn := fun _ => fun
  | [d] => { results := [.lit (.bool true)], args := [d] }
  | _ => none }
def stateLivesInTheStoreRow : OpenClaim := { program := "qxb6500665adoor", sum := "d5cb83eb782d0c205fbe7b7fc45fcd72b46113aae76d49f33f9b322dc1504252", func := "e2e/protocollaw.StateLivesInTheStore", spec := "stateLivesInTheStore", unfollowed := true, recurses := true, named := ["e2e/protocollaw.queryKinds"], apart := false, laid := [("e2e/protocollaw.queryKinds", laid_e2e_protocollaw_queryKinds)] }
def StateLivesInTheStoreSaid : Prop := stateLivesInTheStoreRow.holds Tryd.pinned (OpenSpec.ofChange stateLivesInTheStoreSpec)

/-- ITS FALSE NEIGHBOUR: 'it returns false'. Refute it at one input. -/
def stateLivesInTheStoreWrong : ChangeSpec := { name := "stateLivesInTheStore", fn := fun _ => fun
  | [d] => { results := [.lit (.bool false)], args := [d] }
  | _ => none }
def StateLivesInTheStoreWrongFalsely : Prop := stateLivesInTheStoreRow.holds Tryd.pinned (OpenSpec.ofChange stateLivesInTheStoreWrong)

end Rows
end Go.Proofs.Qxb6500665aDoor
