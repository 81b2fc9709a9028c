/- FnExactCacheTop: the law returns true for every argument, and every argument reads behind the call as it read before: the card. -/
import Derived.Test.YtabhgjdikeipdaaGreatDoorPfExactCacheTop
set_option linter.unusedSimpArgs false
set_option linter.unusedVariables false
namespace Go.Proofs.YtabhgjdikeipdaaGreatDoor
open Go.WideMaps Go.WideElems
open Go.ChangeShapes Go.WideShapes Go.ChangeAt Go.RowKit
theorem fnExactCacheTop_card : Rows.FnExactCacheTopCardSaid :=
 Claim7.holds_tied_plain_at .later [] Rows.fnExactCacheTopCard.laidKinds true Rows.fnExactCacheTopCard.stood.harness Rows.fnExactCacheTopCard.stood.looks
  jQc (fun _ h => by cases h) (by as_aux_lemma => kernel_rfl) (fun _ h => by cases h) fnExactCacheTop_row_tie rfl ⟨rfl, rfl⟩ (by as_aux_lemma => kernel_rfl) rfl
  (fun f fn hf hfn => by
   obtain rfl : f = 5 := Option.some.inj ((show Tryz.prog.funcNamed "loop.example/fossick/laws.FnExactCacheTop" = some 5 by as_aux_lemma => kernel_rfl).symm.trans hf) |>.symm
   obtain rfl : fn = Tryz.f5 := (Option.some.inj (Tryz.func5.symm.trans hfn)).symm
   exact ⟨by as_aux_lemma => kernel_rfl, fun j t ht => by
    rw [Tryz.params5] at ht
    have hm : t ∈ [61, 67, 3, 70] := by simpa using Array.mem_of_getElem? ht
    have hall : ([61, 67, 3, 70].all fun u => !Tryz.prog.wantsStandIn u) = true := by as_aux_lemma => kernel_rfl
    exact (show Tryz.prog.wantsStandIn t = false by simpa using zax.1 hall t hm)⟩)
  (by as_aux_lemma => kernel_rfl)
#print axioms fnExactCacheTop_card
end Go.Proofs.YtabhgjdikeipdaaGreatDoor
