/- FnExactAlertTerms: the law returns true for every argument, and every argument reads behind the call as it read before. -/
import Derived.Test.YtbjikaianmpngaaGreatDoorLD
import Derived.Test.YtbjikaianmpngaaGreatDoorSC
import Derived.ProofKit
import Derived.OpenShut
import Derived.ShutString
import Derived.ChangeOld
import Derived.Below
set_option linter.unusedSimpArgs false
set_option linter.unusedVariables false
namespace Go.Proofs.YtbjikaianmpngaaGreatDoor
open Go.WideMaps Go.WideElems
open Go.ChangeShapes Go.WideShapes Go.ChangeAt Go.RowKit
open Go.ChangeMaps (open_string shut_string)
set_option maxRecDepth 100000 in
set_option maxHeartbeats 1000000 in
theorem jV0 (os : Os) (started : os.Started) (H : Type) (enc : TypeId × Value -> H) :
  ReturnsInHanded {} Tryz.checked os 3 .any (fun w args => (Rows.fnExactAlertTermsSpec.pre enc Tryz.prog Tryz.f3 [] false w args /\ laidMetH Tryz.prog jby w) /\ sizedMet enc Tryz.prog Tryz.f3 (OpenSpec.ofChange Rows.fnExactAlertTermsSpec) false w args) (Rows.fnExactAlertTermsSpec.post enc Tryz.prog Tryz.f3 false true false false) := by
 refine returnsInHanded_of_change_and (C := Tryz.checked) (X := fun w _ => laidMetH Tryz.prog jby w) (fun _ _ _ hh h => h.of_heap hh) ownKnob_none started (by kernel_rfl) Tryz.func3
  (ChangeSpec.witness_shaped (enc := enc) (C := Tryz.checked) (os := os) (X := fun w _ => laidMetH Tryz.prog jby w) false (World.doorLaid Tryz.prog 400 os) #[.slice none 0 0, .agg #[.slice none 0 0, .slice none 0 0]] 8 rfl (World.shaped_of_RefB (by kernel_rfl) (by kernel_rfl)) (by kernel_rfl) (by kernel_rfl) (by kernel_rfl) (jqf os _)) ?_
 intro W base args ds gs before hval0 hW _ _ hL _
 have hval : ∀ (j : Nat) t v, Tryz.f3.params[j]? = some t -> args[j]? = some v -> Value.okWide Tryz.prog W .any base t v := hval0
 have hW' := hW
 obtain ⟨p, q, hA0, hV, rfl, hfz, hnd⟩ := hW
 have hA : DataW.TrodAll enc Tryz.prog W 0 (fun _ => true) true Tryz.f3.params.toList args.toList ds p := hA0
 rw [Tryz.params3] at hA hval
 obtain ⟨v0, vs0, d0, ds0, p0, q0, hargs, rfl, rfl, h0, r0⟩ := trodAll_cons hA
 obtain ⟨v1, vs1, d1, ds1, p1, q1, rfl, rfl, rfl, h1, r1⟩ := trodAll_cons r0
 obtain ⟨rfl, rfl, rfl⟩ := trodAll_nil r1
 obtain rfl : args = #[v0, v1] := by cases args; simp_all
 obtain ⟨gg, tg, csg, fg, dg, pg, rfl, hgg, htg, hvg, hdg, rfl⟩ := trodVars_one hV
 have ltg : ∀ x ∈ pg, x.block < W.heap.size := DataW.trod_lt fg _ _ _ hdg
 have hkg : DataW.Trod enc Tryz.prog W 0 (fun _ => true) true tg (.agg csg) dg pg := ⟨fg, hdg⟩
 obtain rfl := Option.some.inj (jf9.symm.trans (show (Tryz.prog.globals[0]?).map (·.type) = some tg from by obtain rfl := Option.some.inj (jhU.symm.trans hgg); exact htg))
 have k0 := h0
 have lt0 : ∀ x ∈ p0, x.block < W.heap.size := by obtain ⟨m, hm⟩ := k0; exact DataW.trod_lt m _ _ _ hm
 have k1 := h1
 have lt1 : ∀ x ∈ p1, x.block < W.heap.size := by obtain ⟨m, hm⟩ := k1; exact DataW.trod_lt m _ _ _ hm
 obtain ⟨fuel0, hf0⟩ := h0
 obtain ⟨x0, c0⟩ := jH (r := (.pair .str .q)) (by decide) Tryz.underlying22 (by kernel_rfl) (fun n cs y hy _ => jHe hy) hf0
 obtain ⟨a0_0, a0_1, a0_2, rfl⟩ := okWide_slice Tryz.underlying22 (hval 0 22 v0 rfl rfl)
 have o0 := c0.1
 obtain ⟨fuel1, hf1⟩ := h1
 obtain ⟨x1, c1⟩ := jkp hf1
 obtain ⟨cs1, rfl, hn1⟩ := okWide_struct Tryz.underlying26 (hval 1 26 v1 rfl rfl)
 have e1 : (Value.cells (.agg cs1)).toList = cs1.toList := rfl
 rw [e1] at c1
 have o1 := c1.1
 obtain ⟨u1_0, u1_1, l1⟩ := len2 (show cs1.toList.length = 2 from c1.2.1)
 rw [l1] at c1
 obtain ⟨s1_0, t1_0⟩ := RdC.split (q := fun _ => True) (r := fun _ => True) (by decide) c1
 clear hA0 hval0
 refine (jqk (jVI (1048700)) (x0, x1.1, x1.2) (jVq x0 x1 o0 o1) (L := [.pv (.sl (.pair .str .q)) x0, .agg [.pv (.sl .str) x1.1, .pv (.sl (.pair (.sl .str) .str)) x1.2]]) rfl W (jnO hL) [.slice a0_0 a0_1 a0_2, .agg cs1] ⟨RdC.v3 c0, jik (Array.ext' l1) ⟨s1_0.v1, t1_0.v1, True.intro⟩, True.intro⟩).mono fun e W' ⟨he, bel⟩ => ?_
 subst he
 obtain ⟨fg2, hdg2⟩ := Below.trod laid_out (by kernel_rfl) (of_decide_eq_true (by kernel_rfl)) hkg bel ltg
 exact ⟨_, rfl, _, _, _, [], _, _, hW', trodAll_mk1 (shut_bool Tryz.underlying4 _), (trodAll_cons_mk (Below.trod laid_out (by kernel_rfl) (of_decide_eq_true (by kernel_rfl)) k0 bel lt0) (trodAll_cons_mk (Below.trod laid_out (by kernel_rfl) (of_decide_eq_true (by kernel_rfl)) k1 bel lt1) trodAll_mk0)), trodVars_mk1 hgg htg (jsc hgg hvg bel) hdg2, bel.frame _, fun h => by cases h⟩
theorem jDB {a b : Bool} (h1 : a = true) (h2 : b = true) : (a && b) = true := by rw [h1, h2]; rfl
set_option maxHeartbeats 40000000 in
theorem jWa : Rows.FnExactAlertTermsSaid :=
 OpenClaim.holds_of_wide 3 Tryz.f3 rfl rfl rfl rfl rfl rfl rfl ⟨rfl, rfl, rfl, rfl, rfl⟩ rfl rfl rfl rfl rfl (by kernel_rfl) Tryz.func3 (by unfold joinedFacts; (iterate 60 (first | (with_reducible refine jDB ?_ ?_) | skip)); all_goals (as_aux_lemma => kernel_rfl))
  (of_decide_eq_true (by kernel_rfl)) (by unfold Func.isWrapper; first | (rw [zf (by decide +kernel)]; kernel_rfl) | (rw [zu (by decide +kernel)]; exact ⟨rfl, rfl⟩))
  (fun os started H enc _ => jV0 os started H enc)
theorem fnExactAlertTerms_card : Rows.FnExactAlertTermsCardSaid :=
 Claim7.holds_tied_plain_at .later [] Rows.fnExactAlertTermsCard.laidKinds true Rows.fnExactAlertTermsCard.stood.harness Rows.fnExactAlertTermsCard.stood.looks
  jWa (fun _ h => by cases h) (by kernel_rfl) (fun _ h => by cases h) fnExactAlertTerms_row_tie rfl ⟨rfl, rfl⟩ (by kernel_rfl) rfl
  (fun f fn hf hfn => by
   obtain rfl : f = 3 := Option.some.inj ((show Tryz.prog.funcNamed "loop.example/fossick/laws.FnExactAlertTerms" = some 3 by kernel_rfl).symm.trans hf) |>.symm
   obtain rfl : fn = Tryz.f3 := (Option.some.inj (Tryz.func3.symm.trans hfn)).symm
   exact ⟨by kernel_rfl, fun j t ht => by
    rw [Tryz.params3] at ht
    have hm : t ∈ [22, 26] := by simpa using Array.mem_of_getElem? ht
    have hall : ([22, 26].all fun u => !Tryz.prog.wantsStandIn u) = true := by kernel_rfl
    exact (show Tryz.prog.wantsStandIn t = false by simpa using zax.1 hall t hm)⟩)
  (by kernel_rfl)
#print axioms fnExactAlertTerms_card
end Go.Proofs.YtbjikaianmpngaaGreatDoor
