/-
  DERIVED. GIVEN WITH THE SEED: THE CARDS: each row of YtfgcmhhacfkhcaaGreatDoorRows.lean that lists a variable, with what it lists TIED to the program's text (the seventh form; the later family's looks); each row that meets fmt, with fmt's text TOLD by the authors' own Lean function (tested against real Go, not proved from fmt's source: count such statements apart). THE CARD IS WHAT COUNTS. Prove the row's statement (the work); the ties are given (YtfgcmhhacfkhcaaGreatDoorTie.lean); close each card by the builder's one call (the guide's Derived/Test/ToyasCard.lean, 'card_holds'). Laid BY PROGRAM, IN A SANDBOX (cutbox-door.mjs). By AI agents, Wed Nov 11 2026. No macro, syntax, notation, axiom, sorry.
-/
import Derived.Test.YtfgcmhhacfkhcaaGreatDoorRows
import GoSem.ClaimSeven
namespace Go.Proofs.YtfgcmhhacfkhcaaGreatDoor
namespace Rows

/-- THE TIED CARD OF 'laws.FnExactAlertOf'. -/
def fnExactAlertOfCard : Claim7 := { stood := { row := fnExactAlertOfRow, standIns := [], harness := (true, "b06eb02d045eae968c008647723217781ae4f9cd9a739f264933ed8d4dd4f8e3"), looks := false }, kinds := [], alts := [], laidByText := true, laidKinds := [.data, .mapped], laidTests := true, laidLooks := .later }
def FnExactAlertOfCardSaid : Prop := Claim7.holds Tryz.pinned (.plain (OpenSpec.ofChange fnExactAlertOfSpec)) fnExactAlertOfCard

/-- THE TIED CARD OF 'laws.FnAlertOf'. -/
def fnAlertOfCard : Claim7 := { stood := { row := fnAlertOfRow, standIns := [], harness := (true, "b06eb02d045eae968c008647723217781ae4f9cd9a739f264933ed8d4dd4f8e3"), looks := false }, kinds := [], alts := [], laidByText := true, laidKinds := [.data, .mapped], laidTests := true, laidLooks := .later }
def FnAlertOfCardSaid : Prop := Claim7.holds Tryz.pinned (.plain (OpenSpec.ofChange fnAlertOfSpec)) fnAlertOfCard

/-- THE TIED CARD OF 'laws.FnShards'. -/
def fnShardsCard : Claim7 := { stood := { row := fnShardsRow, standIns := [], harness := (true, "b06eb02d045eae968c008647723217781ae4f9cd9a739f264933ed8d4dd4f8e3"), looks := false }, kinds := [], alts := [], laidByText := true, laidKinds := [.data, .mapped], laidTests := true, laidLooks := .later }
def FnShardsCardSaid : Prop := Claim7.holds Tryz.pinned (.plain (OpenSpec.ofChange fnShardsSpec)) fnShardsCard

/-- THE TIED CARD OF 'laws.FnMatchSets'. -/
def fnMatchSetsCard : Claim7 := { stood := { row := fnMatchSetsRow, standIns := [], harness := (true, "b06eb02d045eae968c008647723217781ae4f9cd9a739f264933ed8d4dd4f8e3"), looks := false }, kinds := [], alts := [], laidByText := true, laidKinds := [.data, .mapped], laidTests := true, laidLooks := .later }
def FnMatchSetsCardSaid : Prop := Claim7.holds Tryz.pinned (.plain (OpenSpec.ofChange fnMatchSetsSpec)) fnMatchSetsCard

/-- THE TIED CARD OF 'laws.FnExactIndexTop'. -/
def fnExactIndexTopCard : Claim7 := { stood := { row := fnExactIndexTopRow, standIns := [], harness := (true, "b06eb02d045eae968c008647723217781ae4f9cd9a739f264933ed8d4dd4f8e3"), looks := false }, kinds := [], alts := [], laidByText := true, laidKinds := [.data, .mapped], laidTests := true, laidLooks := .later }
def FnExactIndexTopCardSaid : Prop := Claim7.holds Tryz.pinned (.plain (OpenSpec.ofChange fnExactIndexTopSpec)) fnExactIndexTopCard

/-- THE SECOND FORM's CARD OF 'laws.FnExactAlertOf'. -/
def fnExactAlertOfUptoCard : Claim7 := { stood := { row := fnExactAlertOfUptoRow, standIns := [], harness := (true, "b06eb02d045eae968c008647723217781ae4f9cd9a739f264933ed8d4dd4f8e3"), looks := false }, kinds := [], alts := [], laidByText := true, laidKinds := [.data, .mapped], laidTests := true, laidLooks := .later }
def FnExactAlertOfUptoCardSaid : Prop := Claim7.holds Tryz.pinned (.plain (OpenSpec.upto fnExactAlertOfSpec)) fnExactAlertOfUptoCard

/-- THE SECOND FORM's CARD OF 'laws.FnAlertOf'. -/
def fnAlertOfUptoCard : Claim7 := { stood := { row := fnAlertOfUptoRow, standIns := [], harness := (true, "b06eb02d045eae968c008647723217781ae4f9cd9a739f264933ed8d4dd4f8e3"), looks := false }, kinds := [], alts := [], laidByText := true, laidKinds := [.data, .mapped], laidTests := true, laidLooks := .later }
def FnAlertOfUptoCardSaid : Prop := Claim7.holds Tryz.pinned (.plain (OpenSpec.upto fnAlertOfSpec)) fnAlertOfUptoCard

/-- THE SECOND FORM's CARD OF 'laws.FnShards'. -/
def fnShardsUptoCard : Claim7 := { stood := { row := fnShardsUptoRow, standIns := [], harness := (true, "b06eb02d045eae968c008647723217781ae4f9cd9a739f264933ed8d4dd4f8e3"), looks := false }, kinds := [], alts := [], laidByText := true, laidKinds := [.data, .mapped], laidTests := true, laidLooks := .later }
def FnShardsUptoCardSaid : Prop := Claim7.holds Tryz.pinned (.plain (OpenSpec.upto fnShardsSpec)) fnShardsUptoCard

/-- THE SECOND FORM's CARD OF 'laws.FnMatchSets'. -/
def fnMatchSetsUptoCard : Claim7 := { stood := { row := fnMatchSetsUptoRow, standIns := [], harness := (true, "b06eb02d045eae968c008647723217781ae4f9cd9a739f264933ed8d4dd4f8e3"), looks := false }, kinds := [], alts := [], laidByText := true, laidKinds := [.data, .mapped], laidTests := true, laidLooks := .later }
def FnMatchSetsUptoCardSaid : Prop := Claim7.holds Tryz.pinned (.plain (OpenSpec.upto fnMatchSetsSpec)) fnMatchSetsUptoCard

/-- THE SECOND FORM's CARD OF 'laws.FnExactIndexTop'. -/
def fnExactIndexTopUptoCard : Claim7 := { stood := { row := fnExactIndexTopUptoRow, standIns := [], harness := (true, "b06eb02d045eae968c008647723217781ae4f9cd9a739f264933ed8d4dd4f8e3"), looks := false }, kinds := [], alts := [], laidByText := true, laidKinds := [.data, .mapped], laidTests := true, laidLooks := .later }
def FnExactIndexTopUptoCardSaid : Prop := Claim7.holds Tryz.pinned (.plain (OpenSpec.upto fnExactIndexTopSpec)) fnExactIndexTopUptoCard
end Rows
end Go.Proofs.YtfgcmhhacfkhcaaGreatDoor
