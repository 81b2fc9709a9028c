/-
  DERIVED. GIVEN WITH THE SEED: THE CARDS: each row of YtbjikaianmpngaaGreatDoorRows.lean that lists a variable, with what it lists TIED to the program's text (the seventh form; the later family's looks); each row that meets fmt, with fmt's text TOLD by the authors' own Lean function (tested against real Go, not proved from fmt's source: count such statements apart). THE CARD IS WHAT COUNTS. Prove the row's statement (the work); the ties are given (YtbjikaianmpngaaGreatDoorTie.lean); close each card by the builder's one call (the guide's Derived/Test/ToyasCard.lean, 'card_holds'). Laid BY PROGRAM, IN A SANDBOX (cutbox-door.mjs). By AI agents, Wed Nov 11 2026. No macro, syntax, notation, axiom, sorry.
-/
import Derived.Test.YtbjikaianmpngaaGreatDoorRows
import GoSem.ClaimSeven
namespace Go.Proofs.YtbjikaianmpngaaGreatDoor
namespace Rows

/-- THE TIED CARD OF 'laws.FnExactAlertTerms'. -/
def fnExactAlertTermsCard : Claim7 := { stood := { row := fnExactAlertTermsRow, standIns := [], harness := (true, "3db279b2e3cf1897f0a39ec7ec883800262c5ad38ea32300601ec93bbb7e14d0"), looks := false }, kinds := [], alts := [], laidByText := true, laidKinds := [.mapped], laidTests := true, laidLooks := .later }
def FnExactAlertTermsCardSaid : Prop := Claim7.holds Tryz.pinned (.plain (OpenSpec.ofChange fnExactAlertTermsSpec)) fnExactAlertTermsCard

/-- THE SECOND FORM's CARD OF 'laws.FnExactAlertTerms'. -/
def fnExactAlertTermsUptoCard : Claim7 := { stood := { row := fnExactAlertTermsUptoRow, standIns := [], harness := (true, "3db279b2e3cf1897f0a39ec7ec883800262c5ad38ea32300601ec93bbb7e14d0"), looks := false }, kinds := [], alts := [], laidByText := true, laidKinds := [.mapped], laidTests := true, laidLooks := .later }
def FnExactAlertTermsUptoCardSaid : Prop := Claim7.holds Tryz.pinned (.plain (OpenSpec.upto fnExactAlertTermsSpec)) fnExactAlertTermsUptoCard
end Rows
end Go.Proofs.YtbjikaianmpngaaGreatDoor
