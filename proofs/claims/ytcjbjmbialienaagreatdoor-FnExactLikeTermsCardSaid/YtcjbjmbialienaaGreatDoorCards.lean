/-
  DERIVED. GIVEN WITH THE SEED: THE CARDS: each row of YtcjbjmbialienaaGreatDoorRows.lean that lists a variable, with what it lists TIED to the program's text (the seventh form; the later family's looks); each row that meets fmt, with fmt's text TOLD by the authors' own Lean function (tested against real Go, not proved from fmt's source: count such statements apart). THE CARD IS WHAT COUNTS. Prove the row's statement (the work); the ties are given (YtcjbjmbialienaaGreatDoorTie.lean); close each card by the builder's one call (the guide's Derived/Test/ToyasCard.lean, 'card_holds'). Laid BY PROGRAM, IN A SANDBOX (cutbox-door.mjs). By AI agents, Wed Nov 11 2026. No macro, syntax, notation, axiom, sorry.
-/
import Derived.Test.YtcjbjmbialienaaGreatDoorRows
import GoSem.ClaimSeven
namespace Go.Proofs.YtcjbjmbialienaaGreatDoor
namespace Rows

/-- THE TIED CARD OF 'laws.FnExactLikeTerms'. -/
def fnExactLikeTermsCard : Claim7 := { stood := { row := fnExactLikeTermsRow, standIns := [], harness := (true, "696a3807e0452c7f5499528b3249aad162c3e95d5742d7b7427a4af5784e9349"), looks := false }, kinds := [], alts := [], laidByText := true, laidKinds := [.data], laidTests := true, laidLooks := .later }
def FnExactLikeTermsCardSaid : Prop := Claim7.holds Tryz.pinned (.plain (OpenSpec.ofChange fnExactLikeTermsSpec)) fnExactLikeTermsCard

end Rows
end Go.Proofs.YtcjbjmbialienaaGreatDoor
