/- FnDiskFound: the law returns true for every argument, and every argument reads behind the call as it read before: the card. -/
import Derived.Test.YtnkagklajgimlaaGreatDoorPfDiskFound
set_option linter.unusedSimpArgs false
set_option linter.unusedVariables false
namespace Go.Proofs.YtnkagklajgimlaaGreatDoor
open Go.WideMaps Go.WideElems
open Go.ChangeShapes Go.WideShapes Go.ChangeAt Go.RowKit
theorem fnDiskFound_card : Rows.FnDiskFoundCardSaid :=
 Claim7.holds_tied_plain_at .later [] Rows.fnDiskFoundCard.laidKinds true Rows.fnDiskFoundCard.stood.harness Rows.fnDiskFoundCard.stood.looks
  aau (fun _ h => by cases h) (by as_aux_lemma => kernel_rfl) (fun _ h => by cases h) fnDiskFound_row_tie rfl ⟨rfl, rfl⟩ (by as_aux_lemma => kernel_rfl) rfl
  (fun f fn d b => by
   obtain rfl : f = 3 := Option.some.inj ((show Tryz.prog.funcNamed "loop.example/fossick/laws.FnDiskFound" = some 3 by as_aux_lemma => kernel_rfl).symm.trans d) |>.symm
   obtain rfl : fn = Tryz.f3 := (Option.some.inj (Tryz.func3.symm.trans b)).symm
   exact ⟨by as_aux_lemma => kernel_rfl, fun j t c => by
    rw [Tryz.params3] at c
    have hm : t ∈ [22, 22] := by simpa using Array.mem_of_getElem? c
    have a : ([22, 22].all fun u => !Tryz.prog.wantsStandIn u) = true := by as_aux_lemma => kernel_rfl
    exact (show Tryz.prog.wantsStandIn t = false by simpa using cA.1 a t hm)⟩)
  (by as_aux_lemma => kernel_rfl)
#print axioms fnDiskFound_card
end Go.Proofs.YtnkagklajgimlaaGreatDoor
