/-
  DERIVED. GIVEN WITH THE SEED: THE CARDS: each row of YtchgdmmcjgmfcaaGreatDoorRows.lean that lists a variable, with what it lists TIED to the program's text (the seventh form; the later family's looks); each row that meets fmt, with fmt's text TOLD by the authors' own Lean function (tested against real Go, not proved from fmt's source: count such statements apart). THE CARD IS WHAT COUNTS. Prove the row's statement (the work); the ties are given (YtchgdmmcjgmfcaaGreatDoorTie.lean); close each card by the builder's one call (the guide's Derived/Test/ToyasCard.lean, 'card_holds'). Laid BY PROGRAM, IN A SANDBOX (cutbox-door.mjs). By AI agents, Wed Nov 11 2026. No macro, syntax, notation, axiom, sorry.
-/
import Derived.Test.YtchgdmmcjgmfcaaGreatDoorRows
import GoSem.ClaimSeven
namespace Go.Proofs.YtchgdmmcjgmfcaaGreatDoor
namespace Rows

/-- THE TIED CARD OF 'laws.FnIndexTwice'. -/
def fnIndexTwiceCard : Claim7 := { stood := { row := fnIndexTwiceRow, standIns := [], harness := (true, "bac725785c95a9b8522a86fd2e2f72077871fd1ea3c5f038228343991076d731"), looks := false }, kinds := [], alts := [], laidByText := true, laidKinds := [.data, .mapped], laidTests := true, laidLooks := .later }
def FnIndexTwiceCardSaid : Prop := Claim7.holds Tryz.pinned (.plain (OpenSpec.ofChange fnIndexTwiceSpec)) fnIndexTwiceCard

/-- THE TIED CARD OF 'laws.FnIndexPut'. -/
def fnIndexPutCard : Claim7 := { stood := { row := fnIndexPutRow, standIns := [], harness := (true, "bac725785c95a9b8522a86fd2e2f72077871fd1ea3c5f038228343991076d731"), looks := false }, kinds := [], alts := [], laidByText := true, laidKinds := [.data, .mapped], laidTests := true, laidLooks := .later }
def FnIndexPutCardSaid : Prop := Claim7.holds Tryz.pinned (.plain (OpenSpec.ofChange fnIndexPutSpec)) fnIndexPutCard

/-- THE TIED CARD OF 'laws.FnIndexWays'. -/
def fnIndexWaysCard : Claim7 := { stood := { row := fnIndexWaysRow, standIns := [], harness := (true, "bac725785c95a9b8522a86fd2e2f72077871fd1ea3c5f038228343991076d731"), looks := false }, kinds := [], alts := [], laidByText := true, laidKinds := [.data, .mapped], laidTests := true, laidLooks := .later }
def FnIndexWaysCardSaid : Prop := Claim7.holds Tryz.pinned (.plain (OpenSpec.ofChange fnIndexWaysSpec)) fnIndexWaysCard

/-- THE TIED CARD OF 'laws.FnAlertMany'. -/
def fnAlertManyCard : Claim7 := { stood := { row := fnAlertManyRow, standIns := [], harness := (true, "bac725785c95a9b8522a86fd2e2f72077871fd1ea3c5f038228343991076d731"), looks := false }, kinds := [], alts := [], laidByText := true, laidKinds := [.data, .mapped], laidTests := true, laidLooks := .later }
def FnAlertManyCardSaid : Prop := Claim7.holds Tryz.pinned (.plain (OpenSpec.ofChange fnAlertManySpec)) fnAlertManyCard

/-- THE TIED CARD OF 'laws.FnMatchSets'. -/
def fnMatchSetsCard : Claim7 := { stood := { row := fnMatchSetsRow, standIns := [], harness := (true, "bac725785c95a9b8522a86fd2e2f72077871fd1ea3c5f038228343991076d731"), looks := false }, kinds := [], alts := [], laidByText := true, laidKinds := [.data, .mapped], laidTests := true, laidLooks := .later }
def FnMatchSetsCardSaid : Prop := Claim7.holds Tryz.pinned (.plain (OpenSpec.ofChange fnMatchSetsSpec)) fnMatchSetsCard

/-- THE TIED CARD OF 'laws.FnGroupTop'. -/
def fnGroupTopCard : Claim7 := { stood := { row := fnGroupTopRow, standIns := [], harness := (true, "bac725785c95a9b8522a86fd2e2f72077871fd1ea3c5f038228343991076d731"), looks := false }, kinds := [], alts := [], laidByText := true, laidKinds := [.data, .mapped], laidTests := true, laidLooks := .later }
def FnGroupTopCardSaid : Prop := Claim7.holds Tryz.pinned (.plain (OpenSpec.ofChange fnGroupTopSpec)) fnGroupTopCard

/-- THE SECOND FORM's CARD OF 'laws.FnIndexTwice'. -/
def fnIndexTwiceUptoCard : Claim7 := { stood := { row := fnIndexTwiceUptoRow, standIns := [], harness := (true, "bac725785c95a9b8522a86fd2e2f72077871fd1ea3c5f038228343991076d731"), looks := false }, kinds := [], alts := [], laidByText := true, laidKinds := [.data, .mapped], laidTests := true, laidLooks := .later }
def FnIndexTwiceUptoCardSaid : Prop := Claim7.holds Tryz.pinned (.plain (OpenSpec.upto fnIndexTwiceSpec)) fnIndexTwiceUptoCard

/-- THE SECOND FORM's CARD OF 'laws.FnIndexPut'. -/
def fnIndexPutUptoCard : Claim7 := { stood := { row := fnIndexPutUptoRow, standIns := [], harness := (true, "bac725785c95a9b8522a86fd2e2f72077871fd1ea3c5f038228343991076d731"), looks := false }, kinds := [], alts := [], laidByText := true, laidKinds := [.data, .mapped], laidTests := true, laidLooks := .later }
def FnIndexPutUptoCardSaid : Prop := Claim7.holds Tryz.pinned (.plain (OpenSpec.upto fnIndexPutSpec)) fnIndexPutUptoCard

/-- THE SECOND FORM's CARD OF 'laws.FnIndexWays'. -/
def fnIndexWaysUptoCard : Claim7 := { stood := { row := fnIndexWaysUptoRow, standIns := [], harness := (true, "bac725785c95a9b8522a86fd2e2f72077871fd1ea3c5f038228343991076d731"), looks := false }, kinds := [], alts := [], laidByText := true, laidKinds := [.data, .mapped], laidTests := true, laidLooks := .later }
def FnIndexWaysUptoCardSaid : Prop := Claim7.holds Tryz.pinned (.plain (OpenSpec.upto fnIndexWaysSpec)) fnIndexWaysUptoCard

/-- THE SECOND FORM's CARD OF 'laws.FnAlertMany'. -/
def fnAlertManyUptoCard : Claim7 := { stood := { row := fnAlertManyUptoRow, standIns := [], harness := (true, "bac725785c95a9b8522a86fd2e2f72077871fd1ea3c5f038228343991076d731"), looks := false }, kinds := [], alts := [], laidByText := true, laidKinds := [.data, .mapped], laidTests := true, laidLooks := .later }
def FnAlertManyUptoCardSaid : Prop := Claim7.holds Tryz.pinned (.plain (OpenSpec.upto fnAlertManySpec)) fnAlertManyUptoCard

/-- THE SECOND FORM's CARD OF 'laws.FnMatchSets'. -/
def fnMatchSetsUptoCard : Claim7 := { stood := { row := fnMatchSetsUptoRow, standIns := [], harness := (true, "bac725785c95a9b8522a86fd2e2f72077871fd1ea3c5f038228343991076d731"), looks := false }, kinds := [], alts := [], laidByText := true, laidKinds := [.data, .mapped], laidTests := true, laidLooks := .later }
def FnMatchSetsUptoCardSaid : Prop := Claim7.holds Tryz.pinned (.plain (OpenSpec.upto fnMatchSetsSpec)) fnMatchSetsUptoCard

/-- THE SECOND FORM's CARD OF 'laws.FnGroupTop'. -/
def fnGroupTopUptoCard : Claim7 := { stood := { row := fnGroupTopUptoRow, standIns := [], harness := (true, "bac725785c95a9b8522a86fd2e2f72077871fd1ea3c5f038228343991076d731"), looks := false }, kinds := [], alts := [], laidByText := true, laidKinds := [.data, .mapped], laidTests := true, laidLooks := .later }
def FnGroupTopUptoCardSaid : Prop := Claim7.holds Tryz.pinned (.plain (OpenSpec.upto fnGroupTopSpec)) fnGroupTopUptoCard
end Rows
end Go.Proofs.YtchgdmmcjgmfcaaGreatDoor
