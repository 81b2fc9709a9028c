/- FnExactDiskOpen: the law returns true for every argument, and every argument reads behind the call as it read before: the card. -/
import Derived.Test.YtcinmmojlcchfaaGreatDoorPfExactDiskOpen
set_option linter.unusedSimpArgs false
set_option linter.unusedVariables false
namespace Go.Proofs.YtcinmmojlcchfaaGreatDoor
open Go.WideMaps Go.WideElems
open Go.ChangeShapes Go.WideShapes Go.ChangeAt Go.RowKit
theorem fnExactDiskOpen_card : Rows.FnExactDiskOpenCardSaid :=
 Claim7.holds_tied_plain_at .later [] Rows.fnExactDiskOpenCard.laidKinds true Rows.fnExactDiskOpenCard.stood.harness Rows.fnExactDiskOpenCard.stood.looks
  j0f (fun _ h => by cases h) (by as_aux_lemma => kernel_rfl) (fun _ h => by cases h) fnExactDiskOpen_row_tie rfl ⟨rfl, rfl⟩ (by as_aux_lemma => kernel_rfl) rfl
  (fun f fn hf hfn => by
   obtain rfl : f = 5 := Option.some.inj ((show Tryz.prog.funcNamed "loop.example/fossick/laws.FnExactDiskOpen" = some 5 by as_aux_lemma => kernel_rfl).symm.trans hf) |>.symm
   obtain rfl : fn = Tryz.f5 := (Option.some.inj (Tryz.func5.symm.trans hfn)).symm
   exact ⟨by as_aux_lemma => kernel_rfl, fun j t ht => by
    rw [Tryz.params5] at ht
    have hm : t ∈ [25, 62] := by simpa using Array.mem_of_getElem? ht
    have hall : ([25, 62].all fun u => !Tryz.prog.wantsStandIn u) = true := by as_aux_lemma => kernel_rfl
    exact (show Tryz.prog.wantsStandIn t = false by simpa using zax.1 hall t hm)⟩)
  (by as_aux_lemma => kernel_rfl)
#print axioms fnExactDiskOpen_card
end Go.Proofs.YtcinmmojlcchfaaGreatDoor
