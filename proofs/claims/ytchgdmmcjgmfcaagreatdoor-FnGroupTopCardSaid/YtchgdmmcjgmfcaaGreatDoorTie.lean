/-
  DERIVED. GIVEN WITH THE SEED: THE PROGRAM's TIES (one call each: nine closed facts by the kernel) AND EACH ROW's TIE, after the 31st guide's Derived/Test/Toyas{Tie, Card}.lean. No idea stands in it: it is a product of the set-up. Laid BY PROGRAM, IN A SANDBOX (cutbox-door.mjs). By AI agents, Wed Nov 11 2026. No macro, syntax, notation, axiom, sorry.
-/
import Derived.Test.YtchgdmmcjgmfcaaGreatDoorRows
import Derived.LaidByTextLater
import Derived.SevenTiedAt
import Derived.LaidSub
import Derived.LaidOnce
namespace Go.Proofs.YtchgdmmcjgmfcaaGreatDoor
open Go
set_option maxRecDepth 100000
theorem seatTie1 : Tryz.prog.laidByTextLater [("loop.example/fossick/impl.none", Rows.laid_loop_example_fossick_impl_none), ("loop.example/fossick/impl.shapes", Rows.laid_loop_example_fossick_impl_shapes)] [.data, .mapped] true :=
  Program.laidByTextLater_by_one 79 8 3 (by kernel_rfl) (by kernel_rfl) (by kernel_rfl) (by kernel_rfl) (by kernel_rfl) (by kernel_rfl) (fun _ _ => by kernel_rfl)
theorem noOwnUnsafe : Tryz.pinned.checked.prog.headLifts.contains "ownunsafe" = false := by kernel_rfl
theorem tie : Tryz.prog.laidByTextLater [("loop.example/fossick/impl.none", Rows.laid_loop_example_fossick_impl_none), ("loop.example/fossick/impl.shapes", Rows.laid_loop_example_fossick_impl_shapes)] [.data, .mapped] true :=
  Program.laidByTextLater.sub seatTie1 ["loop.example/fossick/impl.none", "loop.example/fossick/impl.shapes"] (by kernel_rfl) (by kernel_rfl)
theorem fnIndexTwice_row_tie : Rows.fnIndexTwiceRow.laidByTextAt .later Tryz.pinned [.data, .mapped] true :=
  OpenClaim.laidByTextAt_later rfl rfl tie noOwnUnsafe
theorem fnIndexPut_row_tie : Rows.fnIndexPutRow.laidByTextAt .later Tryz.pinned [.data, .mapped] true :=
  OpenClaim.laidByTextAt_later rfl rfl tie noOwnUnsafe
theorem fnIndexWays_row_tie : Rows.fnIndexWaysRow.laidByTextAt .later Tryz.pinned [.data, .mapped] true :=
  OpenClaim.laidByTextAt_later rfl rfl tie noOwnUnsafe
theorem fnAlertMany_row_tie : Rows.fnAlertManyRow.laidByTextAt .later Tryz.pinned [.data, .mapped] true :=
  OpenClaim.laidByTextAt_later rfl rfl tie noOwnUnsafe
theorem fnMatchSets_row_tie : Rows.fnMatchSetsRow.laidByTextAt .later Tryz.pinned [.data, .mapped] true :=
  OpenClaim.laidByTextAt_later rfl rfl tie noOwnUnsafe
theorem fnGroupTop_row_tie : Rows.fnGroupTopRow.laidByTextAt .later Tryz.pinned [.data, .mapped] true :=
  OpenClaim.laidByTextAt_later rfl rfl tie noOwnUnsafe
theorem fnIndexTwiceUpto_row_tie : Rows.fnIndexTwiceUptoRow.laidByTextAt .later Tryz.pinned [.data, .mapped] true :=
  OpenClaim.laidByTextAt_later rfl rfl tie noOwnUnsafe
theorem fnIndexPutUpto_row_tie : Rows.fnIndexPutUptoRow.laidByTextAt .later Tryz.pinned [.data, .mapped] true :=
  OpenClaim.laidByTextAt_later rfl rfl tie noOwnUnsafe
theorem fnIndexWaysUpto_row_tie : Rows.fnIndexWaysUptoRow.laidByTextAt .later Tryz.pinned [.data, .mapped] true :=
  OpenClaim.laidByTextAt_later rfl rfl tie noOwnUnsafe
theorem fnAlertManyUpto_row_tie : Rows.fnAlertManyUptoRow.laidByTextAt .later Tryz.pinned [.data, .mapped] true :=
  OpenClaim.laidByTextAt_later rfl rfl tie noOwnUnsafe
theorem fnMatchSetsUpto_row_tie : Rows.fnMatchSetsUptoRow.laidByTextAt .later Tryz.pinned [.data, .mapped] true :=
  OpenClaim.laidByTextAt_later rfl rfl tie noOwnUnsafe
theorem fnGroupTopUpto_row_tie : Rows.fnGroupTopUptoRow.laidByTextAt .later Tryz.pinned [.data, .mapped] true :=
  OpenClaim.laidByTextAt_later rfl rfl tie noOwnUnsafe
end Go.Proofs.YtchgdmmcjgmfcaaGreatDoor
