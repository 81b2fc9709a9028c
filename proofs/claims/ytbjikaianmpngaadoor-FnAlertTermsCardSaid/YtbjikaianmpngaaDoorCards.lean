/-
  DERIVED. GIVEN WITH THE SEED: THE CARDS: each row of YtbjikaianmpngaaDoorRows.lean that lists a variable, with what it lists TIED to the program's text (the seventh form; the later family's looks); each row that meets fmt, with fmt's text TOLD by the authors' own Lean function (tested against real Go, not proved from fmt's source: count such statements apart). THE CARD IS WHAT COUNTS. Prove the row's statement (the work); the ties are given (YtbjikaianmpngaaDoorTie.lean); close each card by the builder's one call (the guide's Derived/Test/ToyasCard.lean, 'card_holds'). Laid BY PROGRAM, IN A SANDBOX (cutbox-door.mjs). By AI agents, Wed Nov 11 2026. No macro, syntax, notation, axiom, sorry.
-/
import Derived.Test.YtbjikaianmpngaaDoorRows
import GoSem.ClaimSeven
namespace Go.Proofs.YtbjikaianmpngaaDoor
namespace Rows

/-- THE TIED CARD OF 'laws.FnAlertTerms'. -/
def fnAlertTermsCard : Claim7 := { stood := { row := fnAlertTermsRow, standIns := [], harness := (true, "5d684e296683dd8ecde914301963a04495b63bdf12592f9527a68ad5e501875b"), looks := false }, kinds := [], alts := [], laidByText := true, laidKinds := [.mapped], laidTests := true, laidLooks := .later }
def FnAlertTermsCardSaid : Prop := Claim7.holds Tryd.pinned (.plain (OpenSpec.ofChange fnAlertTermsSpec)) fnAlertTermsCard

/-- THE SECOND FORM's CARD OF 'laws.FnAlertTerms'. -/
def fnAlertTermsUptoCard : Claim7 := { stood := { row := fnAlertTermsUptoRow, standIns := [], harness := (true, "5d684e296683dd8ecde914301963a04495b63bdf12592f9527a68ad5e501875b"), looks := false }, kinds := [], alts := [], laidByText := true, laidKinds := [.mapped], laidTests := true, laidLooks := .later }
def FnAlertTermsUptoCardSaid : Prop := Claim7.holds Tryd.pinned (.plain (OpenSpec.upto fnAlertTermsSpec)) fnAlertTermsUptoCard
end Rows
end Go.Proofs.YtbjikaianmpngaaDoor
