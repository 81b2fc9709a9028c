/- FnScoreWritten: the law returns true for every argument, and every argument reads behind the call as it read before: the card. -/
import Derived.Test.YtkglkigmdmohkaaGreatDoorPfScoreWritten
set_option linter.unusedSimpArgs false
set_option linter.unusedVariables false
namespace Go.Proofs.YtkglkigmdmohkaaGreatDoor
open Go.WideMaps Go.WideElems
open Go.ChangeShapes Go.WideShapes Go.ChangeAt Go.RowKit
theorem fnScoreWritten_card : Rows.FnScoreWrittenCardSaid :=
 Claim7.holds_tied_plain_at .later [] Rows.fnScoreWrittenCard.laidKinds true Rows.fnScoreWrittenCard.stood.harness Rows.fnScoreWrittenCard.stood.looks
  j47 (fun _ h => by cases h) (by as_aux_lemma => kernel_rfl) (fun _ h => by cases h) fnScoreWritten_row_tie rfl ⟨rfl, rfl⟩ (by as_aux_lemma => kernel_rfl) rfl
  (fun f fn hf hfn => by
   obtain rfl : f = 3 := Option.some.inj ((show Tryz.prog.funcNamed "loop.example/fossick/laws.FnScoreWritten" = some 3 by as_aux_lemma => kernel_rfl).symm.trans hf) |>.symm
   obtain rfl : fn = Tryz.f3 := (Option.some.inj (Tryz.func3.symm.trans hfn)).symm
   exact ⟨by as_aux_lemma => kernel_rfl, fun j t ht => by
    rw [Tryz.params3] at ht
    have hm : t ∈ [22] := by simpa using Array.mem_of_getElem? ht
    have hall : ([22].all fun u => !Tryz.prog.wantsStandIn u) = true := by as_aux_lemma => kernel_rfl
    exact (show Tryz.prog.wantsStandIn t = false by simpa using zax.1 hall t hm)⟩)
  (by as_aux_lemma => kernel_rfl)
#print axioms fnScoreWritten_card
end Go.Proofs.YtkglkigmdmohkaaGreatDoor
