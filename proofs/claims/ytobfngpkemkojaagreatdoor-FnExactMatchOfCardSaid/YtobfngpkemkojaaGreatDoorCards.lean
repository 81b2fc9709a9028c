/-
  DERIVED. GIVEN WITH THE SEED: THE CARDS: each row of YtobfngpkemkojaaGreatDoorRows.lean that lists a variable, with what it lists TIED to the program's text (the seventh form; the later family's looks); each row that meets fmt, with fmt's text TOLD by the authors' own Lean function (tested against real Go, not proved from fmt's source: count such statements apart). THE CARD IS WHAT COUNTS. Prove the row's statement (the work); the ties are given (YtobfngpkemkojaaGreatDoorTie.lean); close each card by the builder's one call (the guide's Derived/Test/ToyasCard.lean, 'card_holds'). Laid BY PROGRAM, IN A SANDBOX (cutbox-door.mjs). By AI agents, Wed Nov 11 2026. No macro, syntax, notation, axiom, sorry.
-/
import Derived.Test.YtobfngpkemkojaaGreatDoorRows
import GoSem.ClaimSeven
namespace Go.Proofs.YtobfngpkemkojaaGreatDoor
namespace Rows

/-- THE TIED CARD OF 'laws.FnExactScoreOf'. -/
def fnExactScoreOfCard : Claim7 := { stood := { row := fnExactScoreOfRow, standIns := [], harness := (true, "819c87d48d47ee764d68dc6dadf660ba0f2eec3170b8f9b78c0aa6bcfe8f3261"), looks := false }, kinds := [], alts := [], laidByText := true, laidKinds := [.data, .mapped], laidTests := true, laidLooks := .later }
def FnExactScoreOfCardSaid : Prop := Claim7.holds Tryz.pinned (.plain (OpenSpec.ofChange fnExactScoreOfSpec)) fnExactScoreOfCard

/-- THE TIED CARD OF 'laws.FnExactMatchOf'. -/
def fnExactMatchOfCard : Claim7 := { stood := { row := fnExactMatchOfRow, standIns := [], harness := (true, "819c87d48d47ee764d68dc6dadf660ba0f2eec3170b8f9b78c0aa6bcfe8f3261"), looks := false }, kinds := [], alts := [], laidByText := true, laidKinds := [.data, .mapped], laidTests := true, laidLooks := .later }
def FnExactMatchOfCardSaid : Prop := Claim7.holds Tryz.pinned (.plain (OpenSpec.ofChange fnExactMatchOfSpec)) fnExactMatchOfCard

/-- THE TIED CARD OF 'laws.FnExactTopOf'. -/
def fnExactTopOfCard : Claim7 := { stood := { row := fnExactTopOfRow, standIns := [], harness := (true, "819c87d48d47ee764d68dc6dadf660ba0f2eec3170b8f9b78c0aa6bcfe8f3261"), looks := false }, kinds := [], alts := [], laidByText := true, laidKinds := [.data, .mapped], laidTests := true, laidLooks := .later }
def FnExactTopOfCardSaid : Prop := Claim7.holds Tryz.pinned (.plain (OpenSpec.ofChange fnExactTopOfSpec)) fnExactTopOfCard

/-- THE TIED CARD OF 'laws.FnExactTopAfter'. -/
def fnExactTopAfterCard : Claim7 := { stood := { row := fnExactTopAfterRow, standIns := [], harness := (true, "819c87d48d47ee764d68dc6dadf660ba0f2eec3170b8f9b78c0aa6bcfe8f3261"), looks := false }, kinds := [], alts := [], laidByText := true, laidKinds := [.data, .mapped], laidTests := true, laidLooks := .later }
def FnExactTopAfterCardSaid : Prop := Claim7.holds Tryz.pinned (.plain (OpenSpec.ofChange fnExactTopAfterSpec)) fnExactTopAfterCard

/-- THE TIED CARD OF 'laws.FnExactShardTop'. -/
def fnExactShardTopCard : Claim7 := { stood := { row := fnExactShardTopRow, standIns := [], harness := (true, "819c87d48d47ee764d68dc6dadf660ba0f2eec3170b8f9b78c0aa6bcfe8f3261"), looks := false }, kinds := [], alts := [], laidByText := true, laidKinds := [.data, .mapped], laidTests := true, laidLooks := .later }
def FnExactShardTopCardSaid : Prop := Claim7.holds Tryz.pinned (.plain (OpenSpec.ofChange fnExactShardTopSpec)) fnExactShardTopCard

/-- THE TIED CARD OF 'laws.FnExactPageOf'. -/
def fnExactPageOfCard : Claim7 := { stood := { row := fnExactPageOfRow, standIns := [], harness := (true, "819c87d48d47ee764d68dc6dadf660ba0f2eec3170b8f9b78c0aa6bcfe8f3261"), looks := false }, kinds := [], alts := [], laidByText := true, laidKinds := [.data, .mapped], laidTests := true, laidLooks := .later }
def FnExactPageOfCardSaid : Prop := Claim7.holds Tryz.pinned (.plain (OpenSpec.ofChange fnExactPageOfSpec)) fnExactPageOfCard

/-- THE SECOND FORM's CARD OF 'laws.FnExactScoreOf'. -/
def fnExactScoreOfUptoCard : Claim7 := { stood := { row := fnExactScoreOfUptoRow, standIns := [], harness := (true, "819c87d48d47ee764d68dc6dadf660ba0f2eec3170b8f9b78c0aa6bcfe8f3261"), looks := false }, kinds := [], alts := [], laidByText := true, laidKinds := [.data, .mapped], laidTests := true, laidLooks := .later }
def FnExactScoreOfUptoCardSaid : Prop := Claim7.holds Tryz.pinned (.plain (OpenSpec.upto fnExactScoreOfSpec)) fnExactScoreOfUptoCard

/-- THE SECOND FORM's CARD OF 'laws.FnExactMatchOf'. -/
def fnExactMatchOfUptoCard : Claim7 := { stood := { row := fnExactMatchOfUptoRow, standIns := [], harness := (true, "819c87d48d47ee764d68dc6dadf660ba0f2eec3170b8f9b78c0aa6bcfe8f3261"), looks := false }, kinds := [], alts := [], laidByText := true, laidKinds := [.data, .mapped], laidTests := true, laidLooks := .later }
def FnExactMatchOfUptoCardSaid : Prop := Claim7.holds Tryz.pinned (.plain (OpenSpec.upto fnExactMatchOfSpec)) fnExactMatchOfUptoCard

/-- THE SECOND FORM's CARD OF 'laws.FnExactTopOf'. -/
def fnExactTopOfUptoCard : Claim7 := { stood := { row := fnExactTopOfUptoRow, standIns := [], harness := (true, "819c87d48d47ee764d68dc6dadf660ba0f2eec3170b8f9b78c0aa6bcfe8f3261"), looks := false }, kinds := [], alts := [], laidByText := true, laidKinds := [.data, .mapped], laidTests := true, laidLooks := .later }
def FnExactTopOfUptoCardSaid : Prop := Claim7.holds Tryz.pinned (.plain (OpenSpec.upto fnExactTopOfSpec)) fnExactTopOfUptoCard

/-- THE SECOND FORM's CARD OF 'laws.FnExactTopAfter'. -/
def fnExactTopAfterUptoCard : Claim7 := { stood := { row := fnExactTopAfterUptoRow, standIns := [], harness := (true, "819c87d48d47ee764d68dc6dadf660ba0f2eec3170b8f9b78c0aa6bcfe8f3261"), looks := false }, kinds := [], alts := [], laidByText := true, laidKinds := [.data, .mapped], laidTests := true, laidLooks := .later }
def FnExactTopAfterUptoCardSaid : Prop := Claim7.holds Tryz.pinned (.plain (OpenSpec.upto fnExactTopAfterSpec)) fnExactTopAfterUptoCard

/-- THE SECOND FORM's CARD OF 'laws.FnExactShardTop'. -/
def fnExactShardTopUptoCard : Claim7 := { stood := { row := fnExactShardTopUptoRow, standIns := [], harness := (true, "819c87d48d47ee764d68dc6dadf660ba0f2eec3170b8f9b78c0aa6bcfe8f3261"), looks := false }, kinds := [], alts := [], laidByText := true, laidKinds := [.data, .mapped], laidTests := true, laidLooks := .later }
def FnExactShardTopUptoCardSaid : Prop := Claim7.holds Tryz.pinned (.plain (OpenSpec.upto fnExactShardTopSpec)) fnExactShardTopUptoCard

/-- THE SECOND FORM's CARD OF 'laws.FnExactPageOf'. -/
def fnExactPageOfUptoCard : Claim7 := { stood := { row := fnExactPageOfUptoRow, standIns := [], harness := (true, "819c87d48d47ee764d68dc6dadf660ba0f2eec3170b8f9b78c0aa6bcfe8f3261"), looks := false }, kinds := [], alts := [], laidByText := true, laidKinds := [.data, .mapped], laidTests := true, laidLooks := .later }
def FnExactPageOfUptoCardSaid : Prop := Claim7.holds Tryz.pinned (.plain (OpenSpec.upto fnExactPageOfSpec)) fnExactPageOfUptoCard
end Rows
end Go.Proofs.YtobfngpkemkojaaGreatDoor
