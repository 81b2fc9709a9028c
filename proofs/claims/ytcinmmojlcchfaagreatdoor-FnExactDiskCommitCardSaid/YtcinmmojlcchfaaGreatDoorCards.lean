/-
  DERIVED. GIVEN WITH THE SEED: THE CARDS: each row of YtcinmmojlcchfaaGreatDoorRows.lean that lists a variable, with what it lists TIED to the program's text (the seventh form; the later family's looks); each row that meets fmt, with fmt's text TOLD by the authors' own Lean function (tested against real Go, not proved from fmt's source: count such statements apart). THE CARD IS WHAT COUNTS. Prove the row's statement (the work); the ties are given (YtcinmmojlcchfaaGreatDoorTie.lean); close each card by the builder's one call (the guide's Derived/Test/ToyasCard.lean, 'card_holds'). Laid BY PROGRAM, IN A SANDBOX (cutbox-door.mjs). By AI agents, Wed Nov 11 2026. No macro, syntax, notation, axiom, sorry.
-/
import Derived.Test.YtcinmmojlcchfaaGreatDoorRows
import GoSem.ClaimSeven
namespace Go.Proofs.YtcinmmojlcchfaaGreatDoor
namespace Rows

/-- THE TIED CARD OF 'laws.FnExactLiveGet'. -/
def fnExactLiveGetCard : Claim7 := { stood := { row := fnExactLiveGetRow, standIns := [], harness := (true, "4e77401dfa6620c1c0cb15f7dcc8bb06f470714a05da63809ea64dae30677909"), looks := true }, kinds := [], alts := [], laidByText := true, laidKinds := [.data, .data, .data, .data, .sentinel, .sentinel, .pinned], laidTests := true, laidLooks := .later }
def FnExactLiveGetCardSaid : Prop := Claim7.holds Tryz.pinned (.plain (OpenSpec.ofChange fnExactLiveGetSpec)) fnExactLiveGetCard

/-- THE TIED CARD OF 'laws.FnDiskOpen'. -/
def fnDiskOpenCard : Claim7 := { stood := { row := fnDiskOpenRow, standIns := [], harness := (true, "4e77401dfa6620c1c0cb15f7dcc8bb06f470714a05da63809ea64dae30677909"), looks := true }, kinds := [], alts := [], laidByText := true, laidKinds := [.data, .data, .data, .data, .sentinel, .sentinel, .pinned], laidTests := true, laidLooks := .later }
def FnDiskOpenCardSaid : Prop := Claim7.holds Tryz.pinned (.plain (OpenSpec.ofChange fnDiskOpenSpec)) fnDiskOpenCard

/-- THE TIED CARD OF 'laws.FnExactDiskOpen'. -/
def fnExactDiskOpenCard : Claim7 := { stood := { row := fnExactDiskOpenRow, standIns := [], harness := (true, "4e77401dfa6620c1c0cb15f7dcc8bb06f470714a05da63809ea64dae30677909"), looks := true }, kinds := [], alts := [], laidByText := true, laidKinds := [.data, .data, .data, .data, .sentinel, .sentinel, .pinned], laidTests := true, laidLooks := .later }
def FnExactDiskOpenCardSaid : Prop := Claim7.holds Tryz.pinned (.plain (OpenSpec.ofChange fnExactDiskOpenSpec)) fnExactDiskOpenCard

/-- THE TIED CARD OF 'laws.FnDiskCommit'. -/
def fnDiskCommitCard : Claim7 := { stood := { row := fnDiskCommitRow, standIns := [], harness := (true, "4e77401dfa6620c1c0cb15f7dcc8bb06f470714a05da63809ea64dae30677909"), looks := true }, kinds := [], alts := [], laidByText := true, laidKinds := [.data, .data, .data, .data, .sentinel, .sentinel, .pinned], laidTests := true, laidLooks := .later }
def FnDiskCommitCardSaid : Prop := Claim7.holds Tryz.pinned (.plain (OpenSpec.ofChange fnDiskCommitSpec)) fnDiskCommitCard

/-- THE TIED CARD OF 'laws.FnExactDiskCommit'. -/
def fnExactDiskCommitCard : Claim7 := { stood := { row := fnExactDiskCommitRow, standIns := [], harness := (true, "4e77401dfa6620c1c0cb15f7dcc8bb06f470714a05da63809ea64dae30677909"), looks := true }, kinds := [], alts := [], laidByText := true, laidKinds := [.data, .data, .data, .sentinel, .sentinel], laidTests := true, laidLooks := .later }
def FnExactDiskCommitCardSaid : Prop := Claim7.holds Tryz.pinned (.plain (OpenSpec.ofChange fnExactDiskCommitSpec)) fnExactDiskCommitCard

/-- THE TIED CARD OF 'laws.FnDiskTear'. -/
def fnDiskTearCard : Claim7 := { stood := { row := fnDiskTearRow, standIns := [], harness := (true, "4e77401dfa6620c1c0cb15f7dcc8bb06f470714a05da63809ea64dae30677909"), looks := true }, kinds := [], alts := [], laidByText := true, laidKinds := [.data, .data, .data, .data, .sentinel, .sentinel, .pinned], laidTests := true, laidLooks := .later }
def FnDiskTearCardSaid : Prop := Claim7.holds Tryz.pinned (.plain (OpenSpec.ofChange fnDiskTearSpec)) fnDiskTearCard

/-- THE SECOND FORM's CARD OF 'laws.FnExactLiveGet'. -/
def fnExactLiveGetUptoCard : Claim7 := { stood := { row := fnExactLiveGetUptoRow, standIns := [], harness := (true, "4e77401dfa6620c1c0cb15f7dcc8bb06f470714a05da63809ea64dae30677909"), looks := true }, kinds := [], alts := [], laidByText := true, laidKinds := [.data, .data, .data, .data, .sentinel, .sentinel, .pinned], laidTests := true, laidLooks := .later }
def FnExactLiveGetUptoCardSaid : Prop := Claim7.holds Tryz.pinned (.plain (OpenSpec.upto fnExactLiveGetSpec)) fnExactLiveGetUptoCard

/-- THE SECOND FORM's CARD OF 'laws.FnDiskOpen'. -/
def fnDiskOpenUptoCard : Claim7 := { stood := { row := fnDiskOpenUptoRow, standIns := [], harness := (true, "4e77401dfa6620c1c0cb15f7dcc8bb06f470714a05da63809ea64dae30677909"), looks := true }, kinds := [], alts := [], laidByText := true, laidKinds := [.data, .data, .data, .data, .sentinel, .sentinel, .pinned], laidTests := true, laidLooks := .later }
def FnDiskOpenUptoCardSaid : Prop := Claim7.holds Tryz.pinned (.plain (OpenSpec.upto fnDiskOpenSpec)) fnDiskOpenUptoCard

/-- THE SECOND FORM's CARD OF 'laws.FnExactDiskOpen'. -/
def fnExactDiskOpenUptoCard : Claim7 := { stood := { row := fnExactDiskOpenUptoRow, standIns := [], harness := (true, "4e77401dfa6620c1c0cb15f7dcc8bb06f470714a05da63809ea64dae30677909"), looks := true }, kinds := [], alts := [], laidByText := true, laidKinds := [.data, .data, .data, .data, .sentinel, .sentinel, .pinned], laidTests := true, laidLooks := .later }
def FnExactDiskOpenUptoCardSaid : Prop := Claim7.holds Tryz.pinned (.plain (OpenSpec.upto fnExactDiskOpenSpec)) fnExactDiskOpenUptoCard

/-- THE SECOND FORM's CARD OF 'laws.FnDiskCommit'. -/
def fnDiskCommitUptoCard : Claim7 := { stood := { row := fnDiskCommitUptoRow, standIns := [], harness := (true, "4e77401dfa6620c1c0cb15f7dcc8bb06f470714a05da63809ea64dae30677909"), looks := true }, kinds := [], alts := [], laidByText := true, laidKinds := [.data, .data, .data, .data, .sentinel, .sentinel, .pinned], laidTests := true, laidLooks := .later }
def FnDiskCommitUptoCardSaid : Prop := Claim7.holds Tryz.pinned (.plain (OpenSpec.upto fnDiskCommitSpec)) fnDiskCommitUptoCard

/-- THE SECOND FORM's CARD OF 'laws.FnExactDiskCommit'. -/
def fnExactDiskCommitUptoCard : Claim7 := { stood := { row := fnExactDiskCommitUptoRow, standIns := [], harness := (true, "4e77401dfa6620c1c0cb15f7dcc8bb06f470714a05da63809ea64dae30677909"), looks := true }, kinds := [], alts := [], laidByText := true, laidKinds := [.data, .data, .data, .sentinel, .sentinel], laidTests := true, laidLooks := .later }
def FnExactDiskCommitUptoCardSaid : Prop := Claim7.holds Tryz.pinned (.plain (OpenSpec.upto fnExactDiskCommitSpec)) fnExactDiskCommitUptoCard

/-- THE SECOND FORM's CARD OF 'laws.FnDiskTear'. -/
def fnDiskTearUptoCard : Claim7 := { stood := { row := fnDiskTearUptoRow, standIns := [], harness := (true, "4e77401dfa6620c1c0cb15f7dcc8bb06f470714a05da63809ea64dae30677909"), looks := true }, kinds := [], alts := [], laidByText := true, laidKinds := [.data, .data, .data, .data, .sentinel, .sentinel, .pinned], laidTests := true, laidLooks := .later }
def FnDiskTearUptoCardSaid : Prop := Claim7.holds Tryz.pinned (.plain (OpenSpec.upto fnDiskTearSpec)) fnDiskTearUptoCard
end Rows
end Go.Proofs.YtcinmmojlcchfaaGreatDoor
