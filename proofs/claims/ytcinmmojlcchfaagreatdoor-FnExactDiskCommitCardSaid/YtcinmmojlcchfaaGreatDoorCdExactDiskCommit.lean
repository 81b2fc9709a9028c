/- FnExactDiskCommit: the law returns true for every argument, and every argument reads behind the call as it read before: the card. -/
import Derived.Test.YtcinmmojlcchfaaGreatDoorPfExactDiskCommit
set_option linter.unusedSimpArgs false
set_option linter.unusedVariables false
namespace Go.Proofs.YtcinmmojlcchfaaGreatDoor
open Go.WideMaps Go.WideElems
open Go.ChangeShapes Go.WideShapes Go.ChangeAt Go.RowKit
theorem fnExactDiskCommit_card : Rows.FnExactDiskCommitCardSaid :=
 Claim7.holds_tied_plain_at .later [] Rows.fnExactDiskCommitCard.laidKinds true Rows.fnExactDiskCommitCard.stood.harness Rows.fnExactDiskCommitCard.stood.looks
  j4g (fun _ h => by cases h) (by as_aux_lemma => kernel_rfl) (fun _ h => by cases h) fnExactDiskCommit_row_tie rfl ⟨rfl, rfl⟩ (by as_aux_lemma => kernel_rfl) rfl
  (fun f fn hf hfn => by
   obtain rfl : f = 7 := Option.some.inj ((show Tryz.prog.funcNamed "loop.example/fossick/laws.FnExactDiskCommit" = some 7 by as_aux_lemma => kernel_rfl).symm.trans hf) |>.symm
   obtain rfl : fn = Tryz.f7 := (Option.some.inj (Tryz.func7.symm.trans hfn)).symm
   exact ⟨by as_aux_lemma => kernel_rfl, fun j t ht => by
    rw [Tryz.params7] at ht
    have hm : t ∈ [62, 75, 3] := by simpa using Array.mem_of_getElem? ht
    have hall : ([62, 75, 3].all fun u => !Tryz.prog.wantsStandIn u) = true := by as_aux_lemma => kernel_rfl
    exact (show Tryz.prog.wantsStandIn t = false by simpa using zax.1 hall t hm)⟩)
  (by as_aux_lemma => kernel_rfl)
#print axioms fnExactDiskCommit_card
end Go.Proofs.YtcinmmojlcchfaaGreatDoor
