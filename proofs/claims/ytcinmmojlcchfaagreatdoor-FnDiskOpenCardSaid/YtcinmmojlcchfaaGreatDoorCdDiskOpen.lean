/- FnDiskOpen: the law returns true for every argument, and every argument reads behind the call as it read before: the card. -/
import Derived.Test.YtcinmmojlcchfaaGreatDoorPfDiskOpen
set_option linter.unusedSimpArgs false
set_option linter.unusedVariables false
namespace Go.Proofs.YtcinmmojlcchfaaGreatDoor
open Go.WideMaps Go.WideElems
open Go.ChangeShapes Go.WideShapes Go.ChangeAt Go.RowKit
theorem fnDiskOpen_card : Rows.FnDiskOpenCardSaid :=
 Claim7.holds_tied_plain_at .later [] Rows.fnDiskOpenCard.laidKinds true Rows.fnDiskOpenCard.stood.harness Rows.fnDiskOpenCard.stood.looks
  j4B (fun _ h => by cases h) (by as_aux_lemma => kernel_rfl) (fun _ h => by cases h) fnDiskOpen_row_tie rfl ⟨rfl, rfl⟩ (by as_aux_lemma => kernel_rfl) rfl
  (fun f fn hf hfn => by
   obtain rfl : f = 4 := Option.some.inj ((show Tryz.prog.funcNamed "loop.example/fossick/laws.FnDiskOpen" = some 4 by as_aux_lemma => kernel_rfl).symm.trans hf) |>.symm
   obtain rfl : fn = Tryz.f4 := (Option.some.inj (Tryz.func4.symm.trans hfn)).symm
   exact ⟨by as_aux_lemma => kernel_rfl, fun j t ht => by
    rw [Tryz.params4] at ht
    have hm : t ∈ [45] := by simpa using Array.mem_of_getElem? ht
    have hall : ([45].all fun u => !Tryz.prog.wantsStandIn u) = true := by as_aux_lemma => kernel_rfl
    exact (show Tryz.prog.wantsStandIn t = false by simpa using zax.1 hall t hm)⟩)
  (by as_aux_lemma => kernel_rfl)
#print axioms fnDiskOpen_card
end Go.Proofs.YtcinmmojlcchfaaGreatDoor
