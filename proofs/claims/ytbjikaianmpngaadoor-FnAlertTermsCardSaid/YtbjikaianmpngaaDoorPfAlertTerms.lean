/- FnAlertTerms: the law returns true for every argument, and every argument reads behind the call as it read before. -/
import Derived.Test.YtbjikaianmpngaaDoorLD
import Derived.Test.YtbjikaianmpngaaDoorSC
import Derived.ProofKit
import Derived.OpenShut
import Derived.ShutString
import Derived.ChangeOld
import Derived.Below
set_option linter.unusedSimpArgs false
set_option linter.unusedVariables false
namespace Go.Proofs.YtbjikaianmpngaaDoor
open Go.WideMaps Go.WideElems
open Go.ChangeShapes Go.WideShapes Go.ChangeAt Go.RowKit
open Go.ChangeMaps (open_string shut_string)
set_option maxRecDepth 100000 in
set_option maxHeartbeats 1000000 in
theorem jWH (os : Os) (started : os.Started) (H : Type) (enc : TypeId × Value -> H) :
  ReturnsInHanded {} Tryd.checked os 3 .any (fun w args => (Rows.fnAlertTermsSpec.pre enc Tryd.prog Tryd.f3 [] false w args /\ laidMetH Tryd.prog jby w) /\ sizedMet enc Tryd.prog Tryd.f3 (OpenSpec.ofChange Rows.fnAlertTermsSpec) false w args) (Rows.fnAlertTermsSpec.post enc Tryd.prog Tryd.f3 false true false false) := by
 refine returnsInHanded_of_change_and (C := Tryd.checked) (X := fun w _ => laidMetH Tryd.prog jby w) (fun _ _ _ hh h => h.of_heap hh) ownKnob_none started (by kernel_rfl) Tryd.func3
  (ChangeSpec.witness_shaped (enc := enc) (C := Tryd.checked) (os := os) (X := fun w _ => laidMetH Tryd.prog jby w) false (World.doorLaid Tryd.prog 400 os) #[.slice none 0 0] 8 rfl (World.shaped_of_RefB (by kernel_rfl) (by kernel_rfl)) (by kernel_rfl) (by kernel_rfl) (by kernel_rfl) (jqf os _)) ?_
 intro W base args ds gs before hval0 hW _ _ hL _
 have hval : ∀ (j : Nat) t v, Tryd.f3.params[j]? = some t -> args[j]? = some v -> Value.okWide Tryd.prog W .any base t v := hval0
 have hW' := hW
 obtain ⟨p, q, hA0, hV, rfl, hfz, hnd⟩ := hW
 have hA : DataW.TrodAll enc Tryd.prog W 0 (fun _ => true) true Tryd.f3.params.toList args.toList ds p := hA0
 rw [Tryd.params3] at hA hval
 obtain ⟨v0, vs0, d0, ds0, p0, q0, hargs, rfl, rfl, h0, r0⟩ := trodAll_cons hA
 obtain ⟨rfl, rfl, rfl⟩ := trodAll_nil r0
 obtain rfl : args = #[v0] := by cases args; simp_all
 obtain ⟨gg, tg, csg, fg, dg, pg, rfl, hgg, htg, hvg, hdg, rfl⟩ := trodVars_one hV
 have ltg : ∀ x ∈ pg, x.block < W.heap.size := DataW.trod_lt fg _ _ _ hdg
 have hkg : DataW.Trod enc Tryd.prog W 0 (fun _ => true) true tg (.agg csg) dg pg := ⟨fg, hdg⟩
 obtain rfl := Option.some.inj (jf9.symm.trans (show (Tryd.prog.globals[0]?).map (·.type) = some tg from by obtain rfl := Option.some.inj (jhU.symm.trans hgg); exact htg))
 have k0 := h0
 have lt0 : ∀ x ∈ p0, x.block < W.heap.size := by obtain ⟨m, hm⟩ := k0; exact DataW.trod_lt m _ _ _ hm
 obtain ⟨fuel0, hf0⟩ := h0
 obtain ⟨x0, c0⟩ := jH (r := (.int .u8)) (by decide) Tryd.underlying22 (by kernel_rfl) (fun n cs y hy _ => jay Tryd.underlying5 hy) hf0
 obtain ⟨a0_0, a0_1, a0_2, rfl⟩ := okWide_slice Tryd.underlying22 (hval 0 22 v0 rfl rfl)
 have o0 := c0.1
 clear hA0 hval0
 refine (jqk (jWJ (1048700)) x0 (fnAlertTerms_law x0 o0) (L := [.pv (.sl (.int .u8)) x0]) rfl W (jnO hL) [.slice a0_0 a0_1 a0_2] ⟨RdC.v3 c0, True.intro⟩).mono fun e W' ⟨he, bel⟩ => ?_
 subst he
 obtain ⟨fg2, hdg2⟩ := Below.trod laid_out (by kernel_rfl) (of_decide_eq_true (by kernel_rfl)) hkg bel ltg
 exact ⟨_, rfl, _, _, _, [], _, _, hW', trodAll_mk1 (shut_bool Tryd.underlying4 _), (trodAll_cons_mk (Below.trod laid_out (by kernel_rfl) (of_decide_eq_true (by kernel_rfl)) k0 bel lt0) trodAll_mk0), trodVars_mk1 hgg htg (jsc hgg hvg bel) hdg2, bel.frame _, fun h => by cases h⟩
theorem jDB {a b : Bool} (h1 : a = true) (h2 : b = true) : (a && b) = true := by rw [h1, h2]; rfl
set_option maxHeartbeats 40000000 in
theorem jWE : Rows.FnAlertTermsSaid :=
 OpenClaim.holds_of_wide 3 Tryd.f3 rfl rfl rfl rfl rfl rfl rfl ⟨rfl, rfl, rfl, rfl, rfl⟩ rfl rfl rfl rfl rfl (by kernel_rfl) Tryd.func3 (by unfold joinedFacts; (iterate 60 (first | (with_reducible refine jDB ?_ ?_) | skip)); all_goals (as_aux_lemma => kernel_rfl))
  (of_decide_eq_true (by kernel_rfl)) (by unfold Func.isWrapper; first | (rw [zf (by decide +kernel)]; kernel_rfl) | (rw [zu (by decide +kernel)]; exact ⟨rfl, rfl⟩))
  (fun os started H enc _ => jWH os started H enc)
theorem fnAlertTerms_card : Rows.FnAlertTermsCardSaid :=
 Claim7.holds_tied_plain_at .later [] Rows.fnAlertTermsCard.laidKinds true Rows.fnAlertTermsCard.stood.harness Rows.fnAlertTermsCard.stood.looks
  jWE (fun _ h => by cases h) (by kernel_rfl) (fun _ h => by cases h) fnAlertTerms_row_tie rfl ⟨rfl, rfl⟩ (by kernel_rfl) rfl
  (fun f fn hf hfn => by
   obtain rfl : f = 3 := Option.some.inj ((show Tryd.prog.funcNamed "loop.example/fossick/laws.FnAlertTerms" = some 3 by kernel_rfl).symm.trans hf) |>.symm
   obtain rfl : fn = Tryd.f3 := (Option.some.inj (Tryd.func3.symm.trans hfn)).symm
   exact ⟨by kernel_rfl, fun j t ht => by
    rw [Tryd.params3] at ht
    have hm : t ∈ [22] := by simpa using Array.mem_of_getElem? ht
    have hall : ([22].all fun u => !Tryd.prog.wantsStandIn u) = true := by kernel_rfl
    exact (show Tryd.prog.wantsStandIn t = false by simpa using zax.1 hall t hm)⟩)
  (by kernel_rfl)
#print axioms fnAlertTerms_card
end Go.Proofs.YtbjikaianmpngaaDoor
