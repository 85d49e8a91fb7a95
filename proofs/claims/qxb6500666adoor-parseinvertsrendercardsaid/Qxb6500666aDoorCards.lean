/-
  DERIVED. GIVEN WITH THE SEED: THE CARDS: each row of Qxb6500666aDoorRows.lean that lists a variable, with what it lists TIED to the program's text (the seventh form; the later family's looks); each row that meets fmt, with fmt's text TOLD by the authors' own Lean function (tested against real Go, not proved from fmt's source: count such statements apart). THE CARD IS WHAT COUNTS. Prove the row's statement (the work); the ties are given (Qxb6500666aDoorTie.lean); close each card by the builder's one call (the guide's Derived/Test/ToyasCard.lean, 'card_holds'). Laid BY PROGRAM, IN A SANDBOX (cutbox-door.mjs). By AI agents, Wed Nov 11 2026. No macro, syntax, notation, axiom, sorry.
-/
import Derived.Test.Qxb6500666aDoorRows
import GoSem.ClaimSeven
namespace Go.Proofs.Qxb6500666aDoor
namespace Rows

/-- THE TIED CARD OF 'transferlaw.ParseInvertsRender'. -/
def parseInvertsRenderCard : Claim7 := { stood := { row := parseInvertsRenderRow, standIns := [], harness := (true, "805f19c5af6257df8fbe3c4c6540033cd9f667d483cc093f85550a24cf11d6a7"), looks := true }, kinds := [], alts := [], laidByText := true, laidKinds := [.data], laidTests := true, laidLooks := .later }
def ParseInvertsRenderCardSaid : Prop := Claim7.holds Tryd.pinned (.plain (OpenSpec.ofChange parseInvertsRenderSpec)) parseInvertsRenderCard

/-- THE TIED CARD OF 'transferlaw.ApplyDifferAndReconcileAgree'. -/
def applyDifferAndReconcileAgreeCard : Claim7 := { stood := { row := applyDifferAndReconcileAgreeRow, standIns := [], harness := (true, "805f19c5af6257df8fbe3c4c6540033cd9f667d483cc093f85550a24cf11d6a7"), looks := true }, kinds := [], alts := [], laidByText := true, laidKinds := [.data], laidTests := true, laidLooks := .later }
def ApplyDifferAndReconcileAgreeCardSaid : Prop := Claim7.holds Tryd.pinned (.plain (OpenSpec.ofChange applyDifferAndReconcileAgreeSpec)) applyDifferAndReconcileAgreeCard

/-- THE TIED CARD OF 'transferlaw.PermissionTableIsSound'. -/
def permissionTableIsSoundCard : Claim7 := { stood := { row := permissionTableIsSoundRow, standIns := [], harness := (true, "805f19c5af6257df8fbe3c4c6540033cd9f667d483cc093f85550a24cf11d6a7"), looks := true }, kinds := [], alts := [], laidByText := true, laidKinds := [.data, .data], laidTests := true, laidLooks := .later }
def PermissionTableIsSoundCardSaid : Prop := Claim7.holds Tryd.pinned (.plain (OpenSpec.ofChange permissionTableIsSoundSpec)) permissionTableIsSoundCard
end Rows
end Go.Proofs.Qxb6500666aDoor
