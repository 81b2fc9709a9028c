/- FnAllRoads: the law returns true for every argument, and every argument reads behind the call as it read before: the card. -/
import Derived.Test.YtnkagklajgimlaaGreatDoorPfAllRoads
set_option linter.unusedSimpArgs false
set_option linter.unusedVariables false
namespace Go.Proofs.YtnkagklajgimlaaGreatDoor
open Go.WideMaps Go.WideElems
open Go.ChangeShapes Go.WideShapes Go.ChangeAt Go.RowKit
theorem fnAllRoads_card : Rows.FnAllRoadsCardSaid :=
 Claim7.holds_tied_plain_at .later [] Rows.fnAllRoadsCard.laidKinds true Rows.fnAllRoadsCard.stood.harness Rows.fnAllRoadsCard.stood.looks
  ac0 (fun _ h => by cases h) (by as_aux_lemma => kernel_rfl) (fun _ h => by cases h) fnAllRoads_row_tie rfl ⟨rfl, rfl⟩ (by as_aux_lemma => kernel_rfl) rfl
  (fun f fn d b => by
   obtain rfl : f = 4 := Option.some.inj ((show Tryz.prog.funcNamed "loop.example/fossick/laws.FnAllRoads" = some 4 by as_aux_lemma => kernel_rfl).symm.trans d) |>.symm
   obtain rfl : fn = Tryz.f4 := (Option.some.inj (Tryz.func4.symm.trans b)).symm
   exact ⟨by as_aux_lemma => kernel_rfl, fun j t c => by
    rw [Tryz.params4] at c
    have hm : t ∈ [22, 22] := by simpa using Array.mem_of_getElem? c
    have a : ([22, 22].all fun u => !Tryz.prog.wantsStandIn u) = true := by as_aux_lemma => kernel_rfl
    exact (show Tryz.prog.wantsStandIn t = false by simpa using cz.1 a t hm)⟩)
  (by as_aux_lemma => kernel_rfl)
#print axioms fnAllRoads_card
end Go.Proofs.YtnkagklajgimlaaGreatDoor
