/- FnDiskTear: the law returns true for every argument, and every argument reads behind the call as it read before: the card. -/
import Derived.Test.YtcinmmojlcchfaaGreatDoorPfDiskTear
set_option linter.unusedSimpArgs false
set_option linter.unusedVariables false
namespace Go.Proofs.YtcinmmojlcchfaaGreatDoor
open Go.WideMaps Go.WideElems
open Go.ChangeShapes Go.WideShapes Go.ChangeAt Go.RowKit
theorem fnDiskTear_card : Rows.FnDiskTearCardSaid :=
 Claim7.holds_tied_plain_at .later [] Rows.fnDiskTearCard.laidKinds true Rows.fnDiskTearCard.stood.harness Rows.fnDiskTearCard.stood.looks
  j3p (fun _ h => by cases h) (by as_aux_lemma => kernel_rfl) (fun _ h => by cases h) fnDiskTear_row_tie rfl ⟨rfl, rfl⟩ (by as_aux_lemma => kernel_rfl) rfl
  (fun f fn hf hfn => by
   obtain rfl : f = 8 := Option.some.inj ((show Tryz.prog.funcNamed "loop.example/fossick/laws.FnDiskTear" = some 8 by as_aux_lemma => kernel_rfl).symm.trans hf) |>.symm
   obtain rfl : fn = Tryz.f8 := (Option.some.inj (Tryz.func8.symm.trans hfn)).symm
   exact ⟨by as_aux_lemma => kernel_rfl, fun j t ht => by
    rw [Tryz.params8] at ht
    have hm : t ∈ [45] := by simpa using Array.mem_of_getElem? ht
    have hall : ([45].all fun u => !Tryz.prog.wantsStandIn u) = true := by as_aux_lemma => kernel_rfl
    exact (show Tryz.prog.wantsStandIn t = false by simpa using zax.1 hall t hm)⟩)
  (by as_aux_lemma => kernel_rfl)
#print axioms fnDiskTear_card
end Go.Proofs.YtcinmmojlcchfaaGreatDoor
