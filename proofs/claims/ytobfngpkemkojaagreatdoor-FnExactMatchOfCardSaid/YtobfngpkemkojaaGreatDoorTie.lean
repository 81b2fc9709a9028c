/-
  DERIVED. GIVEN WITH THE SEED: THE PROGRAM's TIES (one call each: nine closed facts by the kernel) AND EACH ROW's TIE, after the 31st guide's Derived/Test/Toyas{Tie, Card}.lean. No idea stands in it: it is a product of the set-up. Laid BY PROGRAM, IN A SANDBOX (cutbox-door.mjs). By AI agents, Wed Nov 11 2026. No macro, syntax, notation, axiom, sorry.
-/
import Derived.Test.YtobfngpkemkojaaGreatDoorRows
import Derived.LaidByTextLater
import Derived.SevenTiedAt
import Derived.LaidSub
import Derived.LaidOnce
namespace Go.Proofs.YtobfngpkemkojaaGreatDoor
open Go
set_option maxRecDepth 100000
theorem seatTie1 : Tryz.prog.laidByTextLater [("loop.example/fossick/impl.none", Rows.laid_loop_example_fossick_impl_none), ("loop.example/fossick/impl.shapes", Rows.laid_loop_example_fossick_impl_shapes)] [.data, .mapped] true :=
  Program.laidByTextLater_by_one 79 8 3 (by kernel_rfl) (by kernel_rfl) (by kernel_rfl) (by kernel_rfl) (by kernel_rfl) (by kernel_rfl) (fun _ _ => by kernel_rfl)
theorem noOwnUnsafe : Tryz.pinned.checked.prog.headLifts.contains "ownunsafe" = false := by kernel_rfl
theorem tie : Tryz.prog.laidByTextLater [("loop.example/fossick/impl.none", Rows.laid_loop_example_fossick_impl_none), ("loop.example/fossick/impl.shapes", Rows.laid_loop_example_fossick_impl_shapes)] [.data, .mapped] true :=
  Program.laidByTextLater.sub seatTie1 ["loop.example/fossick/impl.none", "loop.example/fossick/impl.shapes"] (by kernel_rfl) (by kernel_rfl)
theorem fnExactScoreOf_row_tie : Rows.fnExactScoreOfRow.laidByTextAt .later Tryz.pinned [.data, .mapped] true :=
  OpenClaim.laidByTextAt_later rfl rfl tie noOwnUnsafe
theorem fnExactMatchOf_row_tie : Rows.fnExactMatchOfRow.laidByTextAt .later Tryz.pinned [.data, .mapped] true :=
  OpenClaim.laidByTextAt_later rfl rfl tie noOwnUnsafe
theorem fnExactTopOf_row_tie : Rows.fnExactTopOfRow.laidByTextAt .later Tryz.pinned [.data, .mapped] true :=
  OpenClaim.laidByTextAt_later rfl rfl tie noOwnUnsafe
theorem fnExactTopAfter_row_tie : Rows.fnExactTopAfterRow.laidByTextAt .later Tryz.pinned [.data, .mapped] true :=
  OpenClaim.laidByTextAt_later rfl rfl tie noOwnUnsafe
theorem fnExactShardTop_row_tie : Rows.fnExactShardTopRow.laidByTextAt .later Tryz.pinned [.data, .mapped] true :=
  OpenClaim.laidByTextAt_later rfl rfl tie noOwnUnsafe
theorem fnExactPageOf_row_tie : Rows.fnExactPageOfRow.laidByTextAt .later Tryz.pinned [.data, .mapped] true :=
  OpenClaim.laidByTextAt_later rfl rfl tie noOwnUnsafe
theorem fnExactScoreOfUpto_row_tie : Rows.fnExactScoreOfUptoRow.laidByTextAt .later Tryz.pinned [.data, .mapped] true :=
  OpenClaim.laidByTextAt_later rfl rfl tie noOwnUnsafe
theorem fnExactMatchOfUpto_row_tie : Rows.fnExactMatchOfUptoRow.laidByTextAt .later Tryz.pinned [.data, .mapped] true :=
  OpenClaim.laidByTextAt_later rfl rfl tie noOwnUnsafe
theorem fnExactTopOfUpto_row_tie : Rows.fnExactTopOfUptoRow.laidByTextAt .later Tryz.pinned [.data, .mapped] true :=
  OpenClaim.laidByTextAt_later rfl rfl tie noOwnUnsafe
theorem fnExactTopAfterUpto_row_tie : Rows.fnExactTopAfterUptoRow.laidByTextAt .later Tryz.pinned [.data, .mapped] true :=
  OpenClaim.laidByTextAt_later rfl rfl tie noOwnUnsafe
theorem fnExactShardTopUpto_row_tie : Rows.fnExactShardTopUptoRow.laidByTextAt .later Tryz.pinned [.data, .mapped] true :=
  OpenClaim.laidByTextAt_later rfl rfl tie noOwnUnsafe
theorem fnExactPageOfUpto_row_tie : Rows.fnExactPageOfUptoRow.laidByTextAt .later Tryz.pinned [.data, .mapped] true :=
  OpenClaim.laidByTextAt_later rfl rfl tie noOwnUnsafe
end Go.Proofs.YtobfngpkemkojaaGreatDoor
