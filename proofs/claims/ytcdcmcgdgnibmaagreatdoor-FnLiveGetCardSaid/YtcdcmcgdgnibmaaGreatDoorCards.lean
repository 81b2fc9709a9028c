/-
  DERIVED. GIVEN WITH THE SEED: THE CARDS: each row of YtcdcmcgdgnibmaaGreatDoorRows.lean that lists a variable, with what it lists TIED to the program's text (the seventh form; the later family's looks); each row that meets fmt, with fmt's text TOLD by the authors' own Lean function (tested against real Go, not proved from fmt's source: count such statements apart). THE CARD IS WHAT COUNTS. Prove the row's statement (the work); the ties are given (YtcdcmcgdgnibmaaGreatDoorTie.lean); close each card by the builder's one call (the guide's Derived/Test/ToyasCard.lean, 'card_holds'). Laid BY PROGRAM, IN A SANDBOX (cutbox-door.mjs). By AI agents, Wed Nov 11 2026. No macro, syntax, notation, axiom, sorry.
-/
import Derived.Test.YtcdcmcgdgnibmaaGreatDoorRows
import GoSem.ClaimSeven
namespace Go.Proofs.YtcdcmcgdgnibmaaGreatDoor
namespace Rows

/-- THE TIED CARD OF 'laws.FnLivePut'. -/
def fnLivePutCard : Claim7 := { stood := { row := fnLivePutRow, standIns := [], harness := (true, "e6bbef9f66c58efd66804a7ae6cc6dc41667be501d03315aa48bd589b9a030e6"), looks := true }, kinds := [], alts := [], laidByText := true, laidKinds := [.data, .data, .data, .data, .sentinel, .sentinel, .pinned], laidTests := true, laidLooks := .later }
def FnLivePutCardSaid : Prop := Claim7.holds Tryz.pinned (.plain (OpenSpec.ofChange fnLivePutSpec)) fnLivePutCard

/-- THE TIED CARD OF 'laws.FnLiveGet'. -/
def fnLiveGetCard : Claim7 := { stood := { row := fnLiveGetRow, standIns := [], harness := (true, "e6bbef9f66c58efd66804a7ae6cc6dc41667be501d03315aa48bd589b9a030e6"), looks := true }, kinds := [], alts := [], laidByText := true, laidKinds := [.data, .data, .data, .data, .sentinel, .sentinel, .pinned], laidTests := true, laidLooks := .later }
def FnLiveGetCardSaid : Prop := Claim7.holds Tryz.pinned (.plain (OpenSpec.ofChange fnLiveGetSpec)) fnLiveGetCard

/-- THE TIED CARD OF 'laws.FnExactLiveGet'. -/
def fnExactLiveGetCard : Claim7 := { stood := { row := fnExactLiveGetRow, standIns := [], harness := (true, "e6bbef9f66c58efd66804a7ae6cc6dc41667be501d03315aa48bd589b9a030e6"), looks := true }, kinds := [], alts := [], laidByText := true, laidKinds := [.data, .data, .data, .data, .sentinel, .sentinel, .pinned], laidTests := true, laidLooks := .later }
def FnExactLiveGetCardSaid : Prop := Claim7.holds Tryz.pinned (.plain (OpenSpec.ofChange fnExactLiveGetSpec)) fnExactLiveGetCard

/-- THE TIED CARD OF 'laws.FnDiskOpen'. -/
def fnDiskOpenCard : Claim7 := { stood := { row := fnDiskOpenRow, standIns := [], harness := (true, "e6bbef9f66c58efd66804a7ae6cc6dc41667be501d03315aa48bd589b9a030e6"), looks := true }, kinds := [], alts := [], laidByText := true, laidKinds := [.data, .data, .data, .data, .sentinel, .sentinel, .pinned], laidTests := true, laidLooks := .later }
def FnDiskOpenCardSaid : Prop := Claim7.holds Tryz.pinned (.plain (OpenSpec.ofChange fnDiskOpenSpec)) fnDiskOpenCard

/-- THE TIED CARD OF 'laws.FnExactDiskOpen'. -/
def fnExactDiskOpenCard : Claim7 := { stood := { row := fnExactDiskOpenRow, standIns := [], harness := (true, "e6bbef9f66c58efd66804a7ae6cc6dc41667be501d03315aa48bd589b9a030e6"), looks := true }, kinds := [], alts := [], laidByText := true, laidKinds := [.data, .data, .data, .data, .sentinel, .sentinel, .pinned], laidTests := true, laidLooks := .later }
def FnExactDiskOpenCardSaid : Prop := Claim7.holds Tryz.pinned (.plain (OpenSpec.ofChange fnExactDiskOpenSpec)) fnExactDiskOpenCard

/-- THE SECOND FORM's CARD OF 'laws.FnLivePut'. -/
def fnLivePutUptoCard : Claim7 := { stood := { row := fnLivePutUptoRow, standIns := [], harness := (true, "e6bbef9f66c58efd66804a7ae6cc6dc41667be501d03315aa48bd589b9a030e6"), looks := true }, kinds := [], alts := [], laidByText := true, laidKinds := [.data, .data, .data, .data, .sentinel, .sentinel, .pinned], laidTests := true, laidLooks := .later }
def FnLivePutUptoCardSaid : Prop := Claim7.holds Tryz.pinned (.plain (OpenSpec.upto fnLivePutSpec)) fnLivePutUptoCard

/-- THE SECOND FORM's CARD OF 'laws.FnLiveGet'. -/
def fnLiveGetUptoCard : Claim7 := { stood := { row := fnLiveGetUptoRow, standIns := [], harness := (true, "e6bbef9f66c58efd66804a7ae6cc6dc41667be501d03315aa48bd589b9a030e6"), looks := true }, kinds := [], alts := [], laidByText := true, laidKinds := [.data, .data, .data, .data, .sentinel, .sentinel, .pinned], laidTests := true, laidLooks := .later }
def FnLiveGetUptoCardSaid : Prop := Claim7.holds Tryz.pinned (.plain (OpenSpec.upto fnLiveGetSpec)) fnLiveGetUptoCard

/-- THE SECOND FORM's CARD OF 'laws.FnExactLiveGet'. -/
def fnExactLiveGetUptoCard : Claim7 := { stood := { row := fnExactLiveGetUptoRow, standIns := [], harness := (true, "e6bbef9f66c58efd66804a7ae6cc6dc41667be501d03315aa48bd589b9a030e6"), looks := true }, kinds := [], alts := [], laidByText := true, laidKinds := [.data, .data, .data, .data, .sentinel, .sentinel, .pinned], laidTests := true, laidLooks := .later }
def FnExactLiveGetUptoCardSaid : Prop := Claim7.holds Tryz.pinned (.plain (OpenSpec.upto fnExactLiveGetSpec)) fnExactLiveGetUptoCard

/-- THE SECOND FORM's CARD OF 'laws.FnDiskOpen'. -/
def fnDiskOpenUptoCard : Claim7 := { stood := { row := fnDiskOpenUptoRow, standIns := [], harness := (true, "e6bbef9f66c58efd66804a7ae6cc6dc41667be501d03315aa48bd589b9a030e6"), looks := true }, kinds := [], alts := [], laidByText := true, laidKinds := [.data, .data, .data, .data, .sentinel, .sentinel, .pinned], laidTests := true, laidLooks := .later }
def FnDiskOpenUptoCardSaid : Prop := Claim7.holds Tryz.pinned (.plain (OpenSpec.upto fnDiskOpenSpec)) fnDiskOpenUptoCard

/-- THE SECOND FORM's CARD OF 'laws.FnExactDiskOpen'. -/
def fnExactDiskOpenUptoCard : Claim7 := { stood := { row := fnExactDiskOpenUptoRow, standIns := [], harness := (true, "e6bbef9f66c58efd66804a7ae6cc6dc41667be501d03315aa48bd589b9a030e6"), looks := true }, kinds := [], alts := [], laidByText := true, laidKinds := [.data, .data, .data, .data, .sentinel, .sentinel, .pinned], laidTests := true, laidLooks := .later }
def FnExactDiskOpenUptoCardSaid : Prop := Claim7.holds Tryz.pinned (.plain (OpenSpec.upto fnExactDiskOpenSpec)) fnExactDiskOpenUptoCard
end Rows
end Go.Proofs.YtcdcmcgdgnibmaaGreatDoor
