/- FnExactAlertsOk: the law returns true for every argument, and every argument reads behind the call as it read before. -/
import Derived.Test.YtokkfonfajgomaaDoorLD
import Derived.Test.YtokkfonfajgomaaDoorZ4
import Derived.ProofKit
import Derived.OpenShut
import Derived.ShutString
import Derived.ChangeOld
import Derived.Below
set_option linter.unusedSimpArgs false
set_option linter.unusedVariables false
namespace Go.Proofs.YtokkfonfajgomaaDoor
open Go.WideMaps Go.WideElems
open Go.ChangeShapes Go.WideShapes Go.ChangeAt Go.RowKit
open Go.ChangeMaps (open_string shut_string)
set_option maxRecDepth 100000 in
set_option maxHeartbeats 1000000 in
theorem fnExactAlertsOk_lifted (os : Os) (started : os.Started) (H : Type) (enc : TypeId × Value → H) :
    ReturnsInHanded {} Tryd.checked os 3 .any (fun w args => (Rows.fnExactAlertsOkSpec.pre enc Tryd.prog Tryd.f3 [] false w args ∧ laidMetH Tryd.prog laidN w) ∧ sizedMet enc Tryd.prog Tryd.f3 (OpenSpec.ofChange Rows.fnExactAlertsOkSpec) false w args) (Rows.fnExactAlertsOkSpec.post enc Tryd.prog Tryd.f3 false true false false) := by
  refine returnsInHanded_of_change_and (C := Tryd.checked) (X := fun w _ => laidMetH Tryd.prog laidN w) (fun _ _ _ hh h => h.of_heap hh) ownKnob_none started (by kernel_rfl) Tryd.func3
    (ChangeSpec.witness_shaped (enc := enc) (C := Tryd.checked) (os := os) (X := fun w _ => laidMetH Tryd.prog laidN w) false (World.doorLaid Tryd.prog 400 os) #[.slice none 0 0] 8 rfl (World.shaped_of_RefB (by kernel_rfl) (by kernel_rfl)) (by kernel_rfl) (by kernel_rfl) (by kernel_rfl) (door_met os _)) ?_
  intro W base args ds gs before hval0 hW _ _ hL _
  have hval : ∀ (j : Nat) t v, Tryd.f3.params[j]? = some t → args[j]? = some v → Value.okWide Tryd.prog W .any base t v := hval0
  have hW' := hW
  obtain ⟨p, q, hA0, hV, rfl, hfz, hnd⟩ := hW
  have hA : DataW.TrodAll enc Tryd.prog W 0 (fun _ => true) true Tryd.f3.params.toList args.toList ds p := hA0
  rw [Tryd.params3] at hA hval
  obtain ⟨v0, vs0, d0, ds0, p0, q0, hargs, rfl, rfl, h0, r0⟩ := trodAll_cons hA
  obtain ⟨rfl, rfl, rfl⟩ := trodAll_nil r0
  obtain rfl : args = #[v0] := by cases args; simp_all
  obtain ⟨gg, tg, csg, fg, dg, pg, rfl, hgg, htg, hvg, hdg, rfl⟩ := trodVars_one hV
  have ltg : ∀ x ∈ pg, x.block < W.heap.size := DataW.trod_lt fg _ _ _ hdg
  have hkg : DataW.Trod enc Tryd.prog W 0 (fun _ => true) true tg (.agg csg) dg pg := ⟨fg, hdg⟩
  obtain rfl := Option.some.inj (tNone.symm.trans (show (Tryd.prog.globals[0]?).map (·.type) = some tg from by obtain rfl := Option.some.inj (gNone.symm.trans hgg); exact htg))
  have k0 := h0
  have lt0 : ∀ x ∈ p0, x.block < W.heap.size := by obtain ⟨m, hm⟩ := k0; exact DataW.trod_lt m _ _ _ hm
  obtain ⟨fuel0, hf0⟩ := h0
  obtain ⟨x0, c0⟩ := rd_slice (r := (.pair .str .q)) (by decide) Tryd.underlying22 (by kernel_rfl) (fun n cs y hy _ => rdAlert hy) hf0
  obtain ⟨a0_0, a0_1, a0_2, rfl⟩ := okWide_slice Tryd.underlying22 (hval 0 22 v0 rfl rfl)
  have o0 := c0.1
  clear hA0 hval0
  refine (law_any (l_FnExactAlertsOk_ok (1048700)) x0 (fnExactAlertsOk_law x0 o0) (L := [.pv (.sl (.pair .str .q)) x0]) rfl W (laid_glob hL) [.slice a0_0 a0_1 a0_2] ⟨RdC.v3 c0, True.intro⟩).mono fun e W' ⟨he, bel⟩ => ?_
  subst he
  obtain ⟨fg2, hdg2⟩ := Below.trod laid_out (by kernel_rfl) (of_decide_eq_true (by kernel_rfl)) hkg bel ltg
  exact ⟨_, rfl, _, _, _, [], _, _, hW', trodAll_mk1 (shut_bool Tryd.underlying4 _), (trodAll_cons_mk (Below.trod laid_out (by kernel_rfl) (of_decide_eq_true (by kernel_rfl)) k0 bel lt0) trodAll_mk0), trodVars_mk1 hgg htg (var_below hgg hvg bel) hdg2, bel.frame _, fun h => by cases h⟩
theorem fnExactAlertsOk_holds : Rows.FnExactAlertsOkSaid :=
  OpenClaim.holds_of_wide 3 Tryd.f3 rfl rfl rfl rfl rfl rfl rfl ⟨rfl, rfl, rfl, rfl, rfl⟩ rfl rfl rfl rfl rfl (by kernel_rfl) Tryd.func3 (by kernel_rfl)
    (of_decide_eq_true (by kernel_rfl)) (by unfold Func.isWrapper; first | (rw [if_pos (by decide +kernel)]; kernel_rfl) | (rw [if_neg (by decide +kernel)]; exact ⟨rfl, rfl⟩))
    (fun os started H enc _ => fnExactAlertsOk_lifted os started H enc)
theorem fnExactAlertsOk_card : Rows.FnExactAlertsOkCardSaid :=
  Claim7.holds_tied_plain_at .later [] Rows.fnExactAlertsOkCard.laidKinds true Rows.fnExactAlertsOkCard.stood.harness Rows.fnExactAlertsOkCard.stood.looks
    fnExactAlertsOk_holds (fun _ h => by cases h) (by kernel_rfl) (fun _ h => by cases h) fnExactAlertsOk_row_tie rfl ⟨rfl, rfl⟩ (by kernel_rfl) rfl
    (fun f fn hf hfn => by
      obtain rfl : f = 3 := Option.some.inj ((show Tryd.prog.funcNamed "loop.example/fossick/laws.FnExactAlertsOk" = some 3 by kernel_rfl).symm.trans hf) |>.symm
      obtain rfl : fn = Tryd.f3 := (Option.some.inj (Tryd.func3.symm.trans hfn)).symm
      exact ⟨by kernel_rfl, fun j t ht => by
        rw [Tryd.params3] at ht
        have hm : t ∈ [22] := by simpa using Array.mem_of_getElem? ht
        have hall : ([22].all fun u => !Tryd.prog.wantsStandIn u) = true := by kernel_rfl
        exact (show Tryd.prog.wantsStandIn t = false by simpa using List.all_eq_true.1 hall t hm)⟩)
    (by kernel_rfl)
#print axioms fnExactAlertsOk_card
end Go.Proofs.YtokkfonfajgomaaDoor
