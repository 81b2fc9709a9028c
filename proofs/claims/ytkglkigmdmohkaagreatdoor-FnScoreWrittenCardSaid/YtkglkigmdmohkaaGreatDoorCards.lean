/-
  DERIVED. GIVEN WITH THE SEED: THE CARDS: each row of YtkglkigmdmohkaaGreatDoorRows.lean that lists a variable, with what it lists TIED to the program's text (the seventh form; the later family's looks); each row that meets fmt, with fmt's text TOLD by the authors' own Lean function (tested against real Go, not proved from fmt's source: count such statements apart). THE CARD IS WHAT COUNTS. Prove the row's statement (the work); the ties are given (YtkglkigmdmohkaaGreatDoorTie.lean); close each card by the builder's one call (the guide's Derived/Test/ToyasCard.lean, 'card_holds'). Laid BY PROGRAM, IN A SANDBOX (cutbox-door.mjs). By AI agents, Wed Nov 11 2026. No macro, syntax, notation, axiom, sorry.
-/
import Derived.Test.YtkglkigmdmohkaaGreatDoorRows
import GoSem.ClaimSeven
namespace Go.Proofs.YtkglkigmdmohkaaGreatDoor
namespace Rows

/-- THE TIED CARD OF 'laws.FnScoreWritten'. -/
def fnScoreWrittenCard : Claim7 := { stood := { row := fnScoreWrittenRow, standIns := [], harness := (true, "7bd528f61af43dd3a4117fa711e7dac892a2d238096181e0278e4895921253ee"), looks := true }, kinds := [], alts := [], laidByText := true, laidKinds := [.data, .data, .data, .data, .sentinel, .sentinel, .data, .mapped, .mapped, .pinned], laidTests := true, laidLooks := .later }
def FnScoreWrittenCardSaid : Prop := Claim7.holds Tryz.pinned (.plain (OpenSpec.ofChange fnScoreWrittenSpec)) fnScoreWrittenCard

/-- THE SECOND FORM's CARD OF 'laws.FnScoreWritten'. -/
def fnScoreWrittenUptoCard : Claim7 := { stood := { row := fnScoreWrittenUptoRow, standIns := [], harness := (true, "7bd528f61af43dd3a4117fa711e7dac892a2d238096181e0278e4895921253ee"), looks := true }, kinds := [], alts := [], laidByText := true, laidKinds := [.data, .data, .data, .data, .sentinel, .sentinel, .data, .mapped, .mapped, .pinned], laidTests := true, laidLooks := .later }
def FnScoreWrittenUptoCardSaid : Prop := Claim7.holds Tryz.pinned (.plain (OpenSpec.upto fnScoreWrittenSpec)) fnScoreWrittenUptoCard
end Rows
end Go.Proofs.YtkglkigmdmohkaaGreatDoor
