/-
  DERIVED. GIVEN WITH THE SEED: THE CARDS: each row of YtokkfonfajgomaaDoorRows.lean that lists a variable, with what it lists TIED to the program's text (the seventh form; the later family's looks); each row that meets fmt, with fmt's text TOLD by the authors' own Lean function (tested against real Go, not proved from fmt's source: count such statements apart). THE CARD IS WHAT COUNTS. Prove the row's statement (the work); the ties are given (YtokkfonfajgomaaDoorTie.lean); close each card by the builder's one call (the guide's Derived/Test/ToyasCard.lean, 'card_holds'). Laid BY PROGRAM, IN A SANDBOX (cutbox-door.mjs). By AI agents, Wed Nov 11 2026. No macro, syntax, notation, axiom, sorry.
-/
import Derived.Test.YtokkfonfajgomaaDoorRows
import GoSem.ClaimSeven
namespace Go.Proofs.YtokkfonfajgomaaDoor
namespace Rows

/-- THE TIED CARD OF 'laws.FnExactAlertsOk'. -/
def fnExactAlertsOkCard : Claim7 := { stood := { row := fnExactAlertsOkRow, standIns := [], harness := (true, "e6b339aab64d1905a5b2068b262d80874656229022707628e0eb655d4ba41325"), looks := false }, kinds := [], alts := [], laidByText := true, laidKinds := [.mapped], laidTests := true, laidLooks := .later }
def FnExactAlertsOkCardSaid : Prop := Claim7.holds Tryd.pinned (.plain (OpenSpec.ofChange fnExactAlertsOkSpec)) fnExactAlertsOkCard

/-- THE SECOND FORM's CARD OF 'laws.FnExactAlertsOk'. -/
def fnExactAlertsOkUptoCard : Claim7 := { stood := { row := fnExactAlertsOkUptoRow, standIns := [], harness := (true, "e6b339aab64d1905a5b2068b262d80874656229022707628e0eb655d4ba41325"), looks := false }, kinds := [], alts := [], laidByText := true, laidKinds := [.mapped], laidTests := true, laidLooks := .later }
def FnExactAlertsOkUptoCardSaid : Prop := Claim7.holds Tryd.pinned (.plain (OpenSpec.upto fnExactAlertsOkSpec)) fnExactAlertsOkUptoCard
end Rows
end Go.Proofs.YtokkfonfajgomaaDoor
