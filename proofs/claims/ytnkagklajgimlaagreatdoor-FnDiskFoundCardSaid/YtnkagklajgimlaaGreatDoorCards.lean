/-
  DERIVED. GIVEN WITH THE SEED: THE CARDS: each row of YtnkagklajgimlaaGreatDoorRows.lean that lists a variable, with what it lists TIED to the program's text (the seventh form; the later family's looks); each row that meets fmt, with fmt's text TOLD by the authors' own Lean function (tested against real Go, not proved from fmt's source: count such statements apart). THE CARD IS WHAT COUNTS. Prove the row's statement (the work); the ties are given (YtnkagklajgimlaaGreatDoorTie.lean); close each card by the builder's one call (the guide's Derived/Test/ToyasCard.lean, 'card_holds'). Laid BY PROGRAM, IN A SANDBOX (cutbox-door.mjs). By AI agents, Wed Nov 11 2026. No macro, syntax, notation, axiom, sorry.
-/
import Derived.Test.YtnkagklajgimlaaGreatDoorRows
import GoSem.ClaimSeven
namespace Go.Proofs.YtnkagklajgimlaaGreatDoor
namespace Rows

/-- THE TIED CARD OF 'laws.FnDiskFound'. -/
def fnDiskFoundCard : Claim7 := { stood := { row := fnDiskFoundRow, standIns := [], harness := (true, "5fbe90e4c179ca1da642b0c20efd6bb3b419e00ad7de99956b6f17f92cf995f9"), looks := true }, kinds := [], alts := [], laidByText := true, laidKinds := [.data, .data, .data, .data, .sentinel, .sentinel, .data, .mapped, .pinned], laidTests := true, laidLooks := .later }
def FnDiskFoundCardSaid : Prop := Claim7.holds Tryz.pinned (.plain (OpenSpec.ofChange fnDiskFoundSpec)) fnDiskFoundCard

/-- THE TIED CARD OF 'laws.FnAllRoads'. -/
def fnAllRoadsCard : Claim7 := { stood := { row := fnAllRoadsRow, standIns := [], harness := (true, "5fbe90e4c179ca1da642b0c20efd6bb3b419e00ad7de99956b6f17f92cf995f9"), looks := true }, kinds := [], alts := [], laidByText := true, laidKinds := [.data, .data, .data, .data, .sentinel, .sentinel, .data, .mapped, .mapped, .pinned], laidTests := true, laidLooks := .later }
def FnAllRoadsCardSaid : Prop := Claim7.holds Tryz.pinned (.plain (OpenSpec.ofChange fnAllRoadsSpec)) fnAllRoadsCard

/-- THE SECOND FORM's CARD OF 'laws.FnDiskFound'. -/
def fnDiskFoundUptoCard : Claim7 := { stood := { row := fnDiskFoundUptoRow, standIns := [], harness := (true, "5fbe90e4c179ca1da642b0c20efd6bb3b419e00ad7de99956b6f17f92cf995f9"), looks := true }, kinds := [], alts := [], laidByText := true, laidKinds := [.data, .data, .data, .data, .sentinel, .sentinel, .data, .mapped, .pinned], laidTests := true, laidLooks := .later }
def FnDiskFoundUptoCardSaid : Prop := Claim7.holds Tryz.pinned (.plain (OpenSpec.upto fnDiskFoundSpec)) fnDiskFoundUptoCard

/-- THE SECOND FORM's CARD OF 'laws.FnAllRoads'. -/
def fnAllRoadsUptoCard : Claim7 := { stood := { row := fnAllRoadsUptoRow, standIns := [], harness := (true, "5fbe90e4c179ca1da642b0c20efd6bb3b419e00ad7de99956b6f17f92cf995f9"), looks := true }, kinds := [], alts := [], laidByText := true, laidKinds := [.data, .data, .data, .data, .sentinel, .sentinel, .data, .mapped, .mapped, .pinned], laidTests := true, laidLooks := .later }
def FnAllRoadsUptoCardSaid : Prop := Claim7.holds Tryz.pinned (.plain (OpenSpec.upto fnAllRoadsSpec)) fnAllRoadsUptoCard
end Rows
end Go.Proofs.YtnkagklajgimlaaGreatDoor
