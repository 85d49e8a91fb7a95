/-
  DERIVED. GIVEN WITH THE SEED: THE CARDS: each row of Qxb6500665aDoorRows.lean that lists a variable, with what it lists TIED to the program's text (the seventh form; the later family's looks); each row that meets fmt, with fmt's text TOLD by the authors' own Lean function (tested against real Go, not proved from fmt's source: count such statements apart). THE CARD IS WHAT COUNTS. Prove the row's statement (the work); the ties are given (Qxb6500665aDoorTie.lean); close each card by the builder's one call (the guide's Derived/Test/ToyasCard.lean, 'card_holds'). Laid BY PROGRAM, IN A SANDBOX (cutbox-door.mjs). By AI agents, Wed Nov 11 2026. No macro, syntax, notation, axiom, sorry.
-/
import Derived.Test.Qxb6500665aDoorRows
import GoSem.ClaimSeven
namespace Go.Proofs.Qxb6500665aDoor
namespace Rows

/-- THE TIED CARD OF 'protocollaw.RealDoesWhatModelDoes'. -/
def realDoesWhatModelDoesCard : Claim7 := { stood := { row := realDoesWhatModelDoesRow, standIns := [], harness := (true, "a5e551ed982d1495d7d6d7655c0bdbe7ca8b4bb48d4c9b70a3854a8b6dac28c5"), looks := true }, kinds := [], alts := [], laidByText := true, laidKinds := [.data], laidTests := true, laidLooks := .later }
def RealDoesWhatModelDoesCardSaid : Prop := Claim7.holds Tryd.pinned (.plain (OpenSpec.ofChange realDoesWhatModelDoesSpec)) realDoesWhatModelDoesCard

/-- THE TIED CARD OF 'protocollaw.StateLivesInTheStore'. -/
def stateLivesInTheStoreCard : Claim7 := { stood := { row := stateLivesInTheStoreRow, standIns := [], harness := (true, "a5e551ed982d1495d7d6d7655c0bdbe7ca8b4bb48d4c9b70a3854a8b6dac28c5"), looks := true }, kinds := [], alts := [], laidByText := true, laidKinds := [.data], laidTests := true, laidLooks := .later }
def StateLivesInTheStoreCardSaid : Prop := Claim7.holds Tryd.pinned (.plain (OpenSpec.ofChange stateLivesInTheStoreSpec)) stateLivesInTheStoreCard
end Rows
end Go.Proofs.Qxb6500665aDoor
