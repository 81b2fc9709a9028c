/-
  DERIVED. GIVEN WITH THE SEED: THE CARDS: each row of YtcjbjmbialienaaGreatDoorRows.lean that lists a variable, with what it lists TIED to the program's text (the seventh form; the later family's looks); each row that meets fmt, with fmt's text TOLD by the authors' own Lean function (tested against real Go, not proved from fmt's source: count such statements apart). THE CARD IS WHAT COUNTS. Prove the row's statement (the work); the ties are given (YtcjbjmbialienaaGreatDoorTie.lean); close each card by the builder's one call (the guide's Derived/Test/ToyasCard.lean, 'card_holds'). Laid BY PROGRAM, IN A SANDBOX (cutbox-door.mjs). By AI agents, Wed Nov 11 2026. No macro, syntax, notation, axiom, sorry.
-/
import Derived.Test.YtcjbjmbialienaaGreatDoorRows
import GoSem.ClaimSeven
namespace Go.Proofs.YtcjbjmbialienaaGreatDoor
namespace Rows

/-- THE TIED CARD OF 'laws.FnLikeTerms'. -/
def fnLikeTermsCard : Claim7 := { stood := { row := fnLikeTermsRow, standIns := [], harness := (true, "696a3807e0452c7f5499528b3249aad162c3e95d5742d7b7427a4af5784e9349"), looks := false }, kinds := [], alts := [], laidByText := true, laidKinds := [.data], laidTests := true, laidLooks := .later }
def FnLikeTermsCardSaid : Prop := Claim7.holds Tryz.pinned (.plain (OpenSpec.ofChange fnLikeTermsSpec)) fnLikeTermsCard

/-- THE TIED CARD OF 'laws.FnLikeTop'. -/
def fnLikeTopCard : Claim7 := { stood := { row := fnLikeTopRow, standIns := [], harness := (true, "696a3807e0452c7f5499528b3249aad162c3e95d5742d7b7427a4af5784e9349"), looks := false }, kinds := [], alts := [], laidByText := true, laidKinds := [.data], laidTests := true, laidLooks := .later }
def FnLikeTopCardSaid : Prop := Claim7.holds Tryz.pinned (.plain (OpenSpec.ofChange fnLikeTopSpec)) fnLikeTopCard

/-- THE TIED CARD OF 'laws.FnExactLikeTerms'. -/
def fnExactLikeTermsCard : Claim7 := { stood := { row := fnExactLikeTermsRow, standIns := [], harness := (true, "696a3807e0452c7f5499528b3249aad162c3e95d5742d7b7427a4af5784e9349"), looks := false }, kinds := [], alts := [], laidByText := true, laidKinds := [.data], laidTests := true, laidLooks := .later }
def FnExactLikeTermsCardSaid : Prop := Claim7.holds Tryz.pinned (.plain (OpenSpec.ofChange fnExactLikeTermsSpec)) fnExactLikeTermsCard

/-- THE TIED CARD OF 'laws.FnExactLikeTop'. -/
def fnExactLikeTopCard : Claim7 := { stood := { row := fnExactLikeTopRow, standIns := [], harness := (true, "696a3807e0452c7f5499528b3249aad162c3e95d5742d7b7427a4af5784e9349"), looks := false }, kinds := [], alts := [], laidByText := true, laidKinds := [.data], laidTests := true, laidLooks := .later }
def FnExactLikeTopCardSaid : Prop := Claim7.holds Tryz.pinned (.plain (OpenSpec.ofChange fnExactLikeTopSpec)) fnExactLikeTopCard

/-- THE SECOND FORM's CARD OF 'laws.FnLikeTerms'. -/
def fnLikeTermsUptoCard : Claim7 := { stood := { row := fnLikeTermsUptoRow, standIns := [], harness := (true, "696a3807e0452c7f5499528b3249aad162c3e95d5742d7b7427a4af5784e9349"), looks := false }, kinds := [], alts := [], laidByText := true, laidKinds := [.data], laidTests := true, laidLooks := .later }
def FnLikeTermsUptoCardSaid : Prop := Claim7.holds Tryz.pinned (.plain (OpenSpec.upto fnLikeTermsSpec)) fnLikeTermsUptoCard

/-- THE SECOND FORM's CARD OF 'laws.FnLikeTop'. -/
def fnLikeTopUptoCard : Claim7 := { stood := { row := fnLikeTopUptoRow, standIns := [], harness := (true, "696a3807e0452c7f5499528b3249aad162c3e95d5742d7b7427a4af5784e9349"), looks := false }, kinds := [], alts := [], laidByText := true, laidKinds := [.data], laidTests := true, laidLooks := .later }
def FnLikeTopUptoCardSaid : Prop := Claim7.holds Tryz.pinned (.plain (OpenSpec.upto fnLikeTopSpec)) fnLikeTopUptoCard

/-- THE SECOND FORM's CARD OF 'laws.FnExactLikeTerms'. -/
def fnExactLikeTermsUptoCard : Claim7 := { stood := { row := fnExactLikeTermsUptoRow, standIns := [], harness := (true, "696a3807e0452c7f5499528b3249aad162c3e95d5742d7b7427a4af5784e9349"), looks := false }, kinds := [], alts := [], laidByText := true, laidKinds := [.data], laidTests := true, laidLooks := .later }
def FnExactLikeTermsUptoCardSaid : Prop := Claim7.holds Tryz.pinned (.plain (OpenSpec.upto fnExactLikeTermsSpec)) fnExactLikeTermsUptoCard

/-- THE SECOND FORM's CARD OF 'laws.FnExactLikeTop'. -/
def fnExactLikeTopUptoCard : Claim7 := { stood := { row := fnExactLikeTopUptoRow, standIns := [], harness := (true, "696a3807e0452c7f5499528b3249aad162c3e95d5742d7b7427a4af5784e9349"), looks := false }, kinds := [], alts := [], laidByText := true, laidKinds := [.data], laidTests := true, laidLooks := .later }
def FnExactLikeTopUptoCardSaid : Prop := Claim7.holds Tryz.pinned (.plain (OpenSpec.upto fnExactLikeTopSpec)) fnExactLikeTopUptoCard
end Rows
end Go.Proofs.YtcjbjmbialienaaGreatDoor
