/-
  DERIVED. GIVEN WITH THE SEED: THE CARDS: each row of YtabhgjdikeipdaaGreatDoorRows.lean that lists a variable, with what it lists TIED to the program's text (the seventh form; the later family's looks); each row that meets fmt, with fmt's text TOLD by the authors' own Lean function (tested against real Go, not proved from fmt's source: count such statements apart). THE CARD IS WHAT COUNTS. Prove the row's statement (the work); the ties are given (YtabhgjdikeipdaaGreatDoorTie.lean); close each card by the builder's one call (the guide's Derived/Test/ToyasCard.lean, 'card_holds'). Laid BY PROGRAM, IN A SANDBOX (cutbox-door.mjs). By AI agents, Wed Nov 11 2026. No macro, syntax, notation, axiom, sorry.
-/
import Derived.Test.YtabhgjdikeipdaaGreatDoorRows
import GoSem.ClaimSeven
namespace Go.Proofs.YtabhgjdikeipdaaGreatDoor
namespace Rows

/-- THE TIED CARD OF 'laws.FnIndexTop'. -/
def fnIndexTopCard : Claim7 := { stood := { row := fnIndexTopRow, standIns := [], harness := (true, "ce3056baed029e936d9fcee2f19e25f1a4670f6412ddd3dc8a259d45608f21dd"), looks := false }, kinds := [], alts := [], laidByText := true, laidKinds := [.data, .mapped], laidTests := true, laidLooks := .later }
def FnIndexTopCardSaid : Prop := Claim7.holds Tryz.pinned (.plain (OpenSpec.ofChange fnIndexTopSpec)) fnIndexTopCard

/-- THE TIED CARD OF 'laws.FnCacheTop'. -/
def fnCacheTopCard : Claim7 := { stood := { row := fnCacheTopRow, standIns := [], harness := (true, "ce3056baed029e936d9fcee2f19e25f1a4670f6412ddd3dc8a259d45608f21dd"), looks := false }, kinds := [], alts := [], laidByText := true, laidKinds := [.data, .data, .data, .data, .mapped, .mapped], laidTests := true, laidLooks := .later }
def FnCacheTopCardSaid : Prop := Claim7.holds Tryz.pinned (.plain (OpenSpec.ofChange fnCacheTopSpec)) fnCacheTopCard

/-- THE TIED CARD OF 'laws.FnExactCacheTop'. -/
def fnExactCacheTopCard : Claim7 := { stood := { row := fnExactCacheTopRow, standIns := [], harness := (true, "ce3056baed029e936d9fcee2f19e25f1a4670f6412ddd3dc8a259d45608f21dd"), looks := false }, kinds := [], alts := [], laidByText := true, laidKinds := [.data, .data, .data, .data, .mapped, .mapped], laidTests := true, laidLooks := .later }
def FnExactCacheTopCardSaid : Prop := Claim7.holds Tryz.pinned (.plain (OpenSpec.ofChange fnExactCacheTopSpec)) fnExactCacheTopCard

/-- THE SECOND FORM's CARD OF 'laws.FnIndexTop'. -/
def fnIndexTopUptoCard : Claim7 := { stood := { row := fnIndexTopUptoRow, standIns := [], harness := (true, "ce3056baed029e936d9fcee2f19e25f1a4670f6412ddd3dc8a259d45608f21dd"), looks := false }, kinds := [], alts := [], laidByText := true, laidKinds := [.data, .mapped], laidTests := true, laidLooks := .later }
def FnIndexTopUptoCardSaid : Prop := Claim7.holds Tryz.pinned (.plain (OpenSpec.upto fnIndexTopSpec)) fnIndexTopUptoCard

/-- THE SECOND FORM's CARD OF 'laws.FnCacheTop'. -/
def fnCacheTopUptoCard : Claim7 := { stood := { row := fnCacheTopUptoRow, standIns := [], harness := (true, "ce3056baed029e936d9fcee2f19e25f1a4670f6412ddd3dc8a259d45608f21dd"), looks := false }, kinds := [], alts := [], laidByText := true, laidKinds := [.data, .data, .data, .data, .mapped, .mapped], laidTests := true, laidLooks := .later }
def FnCacheTopUptoCardSaid : Prop := Claim7.holds Tryz.pinned (.plain (OpenSpec.upto fnCacheTopSpec)) fnCacheTopUptoCard

/-- THE SECOND FORM's CARD OF 'laws.FnExactCacheTop'. -/
def fnExactCacheTopUptoCard : Claim7 := { stood := { row := fnExactCacheTopUptoRow, standIns := [], harness := (true, "ce3056baed029e936d9fcee2f19e25f1a4670f6412ddd3dc8a259d45608f21dd"), looks := false }, kinds := [], alts := [], laidByText := true, laidKinds := [.data, .data, .data, .data, .mapped, .mapped], laidTests := true, laidLooks := .later }
def FnExactCacheTopUptoCardSaid : Prop := Claim7.holds Tryz.pinned (.plain (OpenSpec.upto fnExactCacheTopSpec)) fnExactCacheTopUptoCard
end Rows
end Go.Proofs.YtabhgjdikeipdaaGreatDoor
