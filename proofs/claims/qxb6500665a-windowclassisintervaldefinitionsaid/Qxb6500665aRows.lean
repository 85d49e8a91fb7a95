/-
  No cell of these rows narrows 'for every input' (looked for: loops, veiled, ifaces, maps, wideKeys, modest, calm, conditions, laid).
  DERIVED. THE GIVEN ROWS OF THIS SEAT. 6 by the template 'for every input the law returns true; each argument reads behind the call as it read before'; 0 by the template 'total and deterministic' (their statements: Qxb6500665aTotals.lean).
  GIVEN WITH THE SEED: the statements are not yours to turn. If you find one false, say at which input.
  Laid BY PROGRAM, IN A SANDBOX (cutbox-rows.mjs): the forced cells as the released guide's own fill.sh prints them over the translation 841c27ad3044d925… (all of the seat's roots in one cut). By AI agents, Wed Nov 11 2026. No macro, syntax, notation, axiom, sorry.
-/
import Derived.Test.Qxb6500665aChecked
import GoSem.Claim
import GoSem.ClaimJoined
import GoSem.ClaimMapViews
import Derived.JoinedTies
import Derived.KernelRfl
namespace Go.Proofs.Qxb6500665a
/- THE CELL 'sum', in the pinned program and in every row, IS THE sha256 OF THE DUMP (.gsa) THAT Qxb6500665aProg.lean LOADS. Nothing in Lean hashes anything: it is a label: what it is worth is what the hold of that sum in a sandbox is worth. -/
noncomputable def Try.pinned : Pinned := { name := "qxb6500665a", sum := "841c27ad3044d9254230fcf4a1c96291974e9c41c6d9c2a83fac4b34c0eaee1b", checked := Try.checked }
namespace Rows
def none {H : Type} : Left H := { results := [], args := [] }

/-- 'protocollaw.WindowClassIsIntervalDefinition': WHATEVER THE INPUT: true; the input reads as it did. -/
def windowClassIsIntervalDefinitionSpec : ChangeSpec := { name := "windowClassIsIntervalDefinition", fn := fun _ => fun
  | [d] => { results := [.lit (.bool true)], args := [d] }
  | _ => none }
def windowClassIsIntervalDefinitionRow : OpenClaim := { program := "qxb6500665a", sum := "841c27ad3044d9254230fcf4a1c96291974e9c41c6d9c2a83fac4b34c0eaee1b", func := "e2e/protocollaw.WindowClassIsIntervalDefinition", spec := "windowClassIsIntervalDefinition", unfollowed := true, recurses := true, apart := false }
def WindowClassIsIntervalDefinitionSaid : Prop := windowClassIsIntervalDefinitionRow.holds Try.pinned (OpenSpec.ofChange windowClassIsIntervalDefinitionSpec)

/-- ITS FALSE NEIGHBOUR: 'it returns false'. Refute it at one input. -/
def windowClassIsIntervalDefinitionWrong : ChangeSpec := { name := "windowClassIsIntervalDefinition", fn := fun _ => fun
  | [d] => { results := [.lit (.bool false)], args := [d] }
  | _ => none }
def WindowClassIsIntervalDefinitionWrongFalsely : Prop := windowClassIsIntervalDefinitionRow.holds Try.pinned (OpenSpec.ofChange windowClassIsIntervalDefinitionWrong)

/-- 'protocollaw.AmendmentsApplyFromTheirEffectiveMinute': WHATEVER THE INPUT: true; the input reads as it did. -/
def amendmentsApplyFromTheirEffectiveMinuteSpec : ChangeSpec := { name := "amendmentsApplyFromTheirEffectiveMinute", fn := fun _ => fun
  | [d] => { results := [.lit (.bool true)], args := [d] }
  | _ => none }
def amendmentsApplyFromTheirEffectiveMinuteRow : OpenClaim := { program := "qxb6500665a", sum := "841c27ad3044d9254230fcf4a1c96291974e9c41c6d9c2a83fac4b34c0eaee1b", func := "e2e/protocollaw.AmendmentsApplyFromTheirEffectiveMinute", spec := "amendmentsApplyFromTheirEffectiveMinute", unfollowed := true, recurses := true, apart := false }
def AmendmentsApplyFromTheirEffectiveMinuteSaid : Prop := amendmentsApplyFromTheirEffectiveMinuteRow.holds Try.pinned (OpenSpec.ofChange amendmentsApplyFromTheirEffectiveMinuteSpec)

/-- ITS FALSE NEIGHBOUR: 'it returns false'. Refute it at one input. -/
def amendmentsApplyFromTheirEffectiveMinuteWrong : ChangeSpec := { name := "amendmentsApplyFromTheirEffectiveMinute", fn := fun _ => fun
  | [d] => { results := [.lit (.bool false)], args := [d] }
  | _ => none }
def AmendmentsApplyFromTheirEffectiveMinuteWrongFalsely : Prop := amendmentsApplyFromTheirEffectiveMinuteRow.holds Try.pinned (OpenSpec.ofChange amendmentsApplyFromTheirEffectiveMinuteWrong)

/-- 'protocollaw.BadAmendmentsAreRefused': WHATEVER THE INPUT: true; the input reads as it did. -/
def badAmendmentsAreRefusedSpec : ChangeSpec := { name := "badAmendmentsAreRefused", fn := fun _ => fun
  | [d] => { results := [.lit (.bool true)], args := [d] }
  | _ => none }
def badAmendmentsAreRefusedRow : OpenClaim := { program := "qxb6500665a", sum := "841c27ad3044d9254230fcf4a1c96291974e9c41c6d9c2a83fac4b34c0eaee1b", func := "e2e/protocollaw.BadAmendmentsAreRefused", spec := "badAmendmentsAreRefused", unfollowed := true, recurses := true, apart := false }
def BadAmendmentsAreRefusedSaid : Prop := badAmendmentsAreRefusedRow.holds Try.pinned (OpenSpec.ofChange badAmendmentsAreRefusedSpec)

/-- ITS FALSE NEIGHBOUR: 'it returns false'. Refute it at one input. -/
def badAmendmentsAreRefusedWrong : ChangeSpec := { name := "badAmendmentsAreRefused", fn := fun _ => fun
  | [d] => { results := [.lit (.bool false)], args := [d] }
  | _ => none }
def BadAmendmentsAreRefusedWrongFalsely : Prop := badAmendmentsAreRefusedRow.holds Try.pinned (OpenSpec.ofChange badAmendmentsAreRefusedWrong)

/-- 'protocollaw.RefusalsAndQueriesChangeNothing': WHATEVER THE INPUT: true; the input reads as it did. -/
def refusalsAndQueriesChangeNothingSpec : ChangeSpec := { name := "refusalsAndQueriesChangeNothing", fn := fun _ => fun
  | [d] => { results := [.lit (.bool true)], args := [d] }
  | _ => none }
def refusalsAndQueriesChangeNothingRow : OpenClaim := { program := "qxb6500665a", sum := "841c27ad3044d9254230fcf4a1c96291974e9c41c6d9c2a83fac4b34c0eaee1b", func := "e2e/protocollaw.RefusalsAndQueriesChangeNothing", spec := "refusalsAndQueriesChangeNothing", unfollowed := true, recurses := true, apart := false }
def RefusalsAndQueriesChangeNothingSaid : Prop := refusalsAndQueriesChangeNothingRow.holds Try.pinned (OpenSpec.ofChange refusalsAndQueriesChangeNothingSpec)

/-- ITS FALSE NEIGHBOUR: 'it returns false'. Refute it at one input. -/
def refusalsAndQueriesChangeNothingWrong : ChangeSpec := { name := "refusalsAndQueriesChangeNothing", fn := fun _ => fun
  | [d] => { results := [.lit (.bool false)], args := [d] }
  | _ => none }
def RefusalsAndQueriesChangeNothingWrongFalsely : Prop := refusalsAndQueriesChangeNothingRow.holds Try.pinned (OpenSpec.ofChange refusalsAndQueriesChangeNothingWrong)

/-- 'protocollaw.CalendarIsFloorDivision': WHATEVER THE INPUT: true; the input reads as it did. -/
def calendarIsFloorDivisionSpec : ChangeSpec := { name := "calendarIsFloorDivision", fn := fun _ => fun
  | [d] => { results := [.lit (.bool true)], args := [d] }
  | _ => none }
def calendarIsFloorDivisionRow : OpenClaim := { program := "qxb6500665a", sum := "841c27ad3044d9254230fcf4a1c96291974e9c41c6d9c2a83fac4b34c0eaee1b", func := "e2e/protocollaw.CalendarIsFloorDivision", spec := "calendarIsFloorDivision", apart := false }
def CalendarIsFloorDivisionSaid : Prop := calendarIsFloorDivisionRow.holds Try.pinned (OpenSpec.ofChange calendarIsFloorDivisionSpec)

/-- ITS FALSE NEIGHBOUR: 'it returns false'. Refute it at one input. -/
def calendarIsFloorDivisionWrong : ChangeSpec := { name := "calendarIsFloorDivision", fn := fun _ => fun
  | [d] => { results := [.lit (.bool false)], args := [d] }
  | _ => none }
def CalendarIsFloorDivisionWrongFalsely : Prop := calendarIsFloorDivisionRow.holds Try.pinned (OpenSpec.ofChange calendarIsFloorDivisionWrong)

/-- 'protocollaw.CalendarEdges': WHATEVER THE INPUT: true; the input reads as it did. -/
def calendarEdgesSpec : ChangeSpec := { name := "calendarEdges", fn := fun _ => fun
  | [] => { results := [.lit (.bool true)], args := [] }
  | _ => none }
def calendarEdgesRow : OpenClaim := { program := "qxb6500665a", sum := "841c27ad3044d9254230fcf4a1c96291974e9c41c6d9c2a83fac4b34c0eaee1b", func := "e2e/protocollaw.CalendarEdges", spec := "calendarEdges", apart := false }
def CalendarEdgesSaid : Prop := calendarEdgesRow.holds Try.pinned (OpenSpec.ofChange calendarEdgesSpec)

/-- ITS FALSE NEIGHBOUR: 'it returns false'. Refute it at one input. -/
def calendarEdgesWrong : ChangeSpec := { name := "calendarEdges", fn := fun _ => fun
  | [] => { results := [.lit (.bool false)], args := [] }
  | _ => none }
def CalendarEdgesWrongFalsely : Prop := calendarEdgesRow.holds Try.pinned (OpenSpec.ofChange calendarEdgesWrong)

end Rows
end Go.Proofs.Qxb6500665a
