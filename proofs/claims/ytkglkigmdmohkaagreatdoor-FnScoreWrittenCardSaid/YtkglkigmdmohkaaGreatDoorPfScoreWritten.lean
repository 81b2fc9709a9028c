/- FnScoreWritten: the law returns true for every argument, and every argument reads behind the call as it read before. -/
import Derived.Test.YtkglkigmdmohkaaGreatDoorLD
import Derived.Test.YtkglkigmdmohkaaGreatDoorSF1
import Derived.ProofKit
import Derived.OpenShut
import Derived.ShutString
import Derived.ChangeOld
import Derived.Below
set_option linter.unusedSimpArgs false
set_option linter.unusedVariables false
namespace Go.Proofs.YtkglkigmdmohkaaGreatDoor
open Go.WideMaps Go.WideElems
open Go.ChangeShapes Go.WideShapes Go.ChangeAt Go.RowKit
open Go.ChangeMaps (open_string shut_string)
set_option maxRecDepth 100000 in
set_option maxHeartbeats 1000000 in
theorem j5f (os : Os) (started : os.Started) (H : Type) (enc : TypeId × Value -> H) :
  ReturnsInHanded {} Tryz.checked os 3 .any (fun w args => (Rows.fnScoreWrittenSpec.pre enc Tryz.prog Tryz.f3 [] false w args /\ laidMetH Tryz.prog jby w) /\ sizedMet enc Tryz.prog Tryz.f3 (OpenSpec.ofChange Rows.fnScoreWrittenSpec) false w args) (Rows.fnScoreWrittenSpec.post enc Tryz.prog Tryz.f3 false true false false) := by
 refine jXW (C := Tryz.checked) (X := fun w _ => laidMetH Tryz.prog jby w) (fun _ _ _ hh h => h.of_heap hh) ownKnob_none started (by kernel_rfl) Tryz.func3
  (ChangeSpec.witness_shaped (enc := enc) (C := Tryz.checked) (os := os) (X := fun w _ => laidMetH Tryz.prog jby w) false (witW os) #[.slice none 0 0] 8 (World.layVars_os _ _ _) (World.shaped_of_ZipB (by kernel_rfl) (by kernel_rfl)) (by kernel_rfl) (by kernel_rfl) (by kernel_rfl) (jqf os _)) ?_
 intro W base args ds gs before hval0 hW _ _ hL hsh _
 have hval : ∀ (j : Nat) t v, Tryz.f3.params[j]? = some t -> args[j]? = some v -> Value.okWide Tryz.prog W .any base t v := hval0
 have hW' := hW
 obtain ⟨p, q, hA0, hV, rfl, hfz, hnd⟩ := hW
 have hA : DataW.TrodAll enc Tryz.prog W 0 (fun _ => true) true Tryz.f3.params.toList args.toList ds p := hA0
 rw [Tryz.params3] at hA hval
 obtain ⟨v0, vs0, d0, ds0, p0, q0, hargs, rfl, rfl, h0, r0⟩ := trodAll_cons hA
 obtain ⟨rfl, rfl, rfl⟩ := trodAll_nil r0
 obtain rfl : args = #[v0] := by cases args; simp_all
 obtain ⟨gg, tg, csg, fg, dg, pg, gh, th, csh, fh, dh, ph, gi, ti, csi, fi, di, pi, rfl, hgg, htg, hvg, hdg, hgh, hth, hvh, hdh, hgi, hti, hvi, hdi, rfl⟩ := jO6 hV
 have ltg : ∀ x ∈ pg, x.block < W.heap.size := DataW.trod_lt fg _ _ _ hdg
 have lth : ∀ x ∈ ph, x.block < W.heap.size := DataW.trod_lt fh _ _ _ hdh
 have lti : ∀ x ∈ pi, x.block < W.heap.size := DataW.trod_lt fi _ _ _ hdi
 have hkg : DataW.Trod enc Tryz.prog W 0 (fun _ => true) true tg (.agg csg) dg pg := ⟨fg, hdg⟩
 have hkh : DataW.Trod enc Tryz.prog W 0 (fun _ => true) true th (.agg csh) dh ph := ⟨fh, hdh⟩
 have hki : DataW.Trod enc Tryz.prog W 0 (fun _ => true) true ti (.agg csi) di pi := ⟨fi, hdi⟩
 obtain rfl := Option.some.inj (tMap.symm.trans (show (Tryz.prog.globals[1]?).map (·.type) = some tg from by obtain rfl := Option.some.inj (gMap.symm.trans hgg); exact htg))
 obtain rfl := Option.some.inj (jf9.symm.trans (show (Tryz.prog.globals[2]?).map (·.type) = some th from by obtain rfl := Option.some.inj (jhU.symm.trans hgh); exact hth))
 obtain rfl := Option.some.inj (tOps.symm.trans (show (Tryz.prog.globals[0]?).map (·.type) = some ti from by obtain rfl := Option.some.inj (gOps.symm.trans hgi); exact hti))
 have k0 := h0
 have lt0 : ∀ x ∈ p0, x.block < W.heap.size := by obtain ⟨m, hm⟩ := k0; exact DataW.trod_lt m _ _ _ hm
 obtain ⟨fuel0, hf0⟩ := h0
 obtain ⟨x0, c0⟩ := jH (r := (.int .u8)) (by decide) Tryz.underlying22 (by kernel_rfl) (fun n cs y hy _ => jay Tryz.underlying5 hy) hf0
 obtain ⟨a0_0, a0_1, a0_2, rfl⟩ := okWide_slice Tryz.underlying22 (hval 0 22 v0 rfl rfl)
 have o0 := c0.1
 clear hA0 hval0
 obtain ⟨Gm, hGm⟩ := jnO hL hsh
 refine (jqk (j5b (1048700)) x0 (fnScoreWritten_law x0 o0) (L := [.pv (.sl (.int .u8)) x0]) rfl W hGm [.slice a0_0 a0_1 a0_2] ⟨RdC.v3 c0, True.intro⟩).mono fun e W' ⟨he, bel⟩ => ?_
 subst he
 obtain ⟨fg2, hdg2⟩ := Below.trod laid_out (by kernel_rfl) (of_decide_eq_true (by kernel_rfl)) hkg bel ltg
 obtain ⟨fh2, hdh2⟩ := Below.trod laid_out (by kernel_rfl) (of_decide_eq_true (by kernel_rfl)) hkh bel lth
 obtain ⟨fi2, hdi2⟩ := Below.trod laid_out (by kernel_rfl) (of_decide_eq_true (by kernel_rfl)) hki bel lti
 exact ⟨_, rfl, _, _, _, [], _, _, hW', trodAll_mk1 (shut_bool Tryz.underlying4 _), (trodAll_cons_mk (Below.trod laid_out (by kernel_rfl) (of_decide_eq_true (by kernel_rfl)) k0 bel lt0) trodAll_mk0), jPd hgg htg (jsc hgg hvg bel) hdg2 hgh hth (jsc hgh hvh bel) hdh2 hgi hti (jsc hgi hvi bel) hdi2, bel.frame _, fun h => by cases h⟩
theorem jDB {a b : Bool} (h1 : a = true) (h2 : b = true) : (a && b) = true := by rw [h1, h2]; rfl
set_option maxHeartbeats 40000000 in
theorem j47 : Rows.FnScoreWrittenSaid :=
 OpenClaim.holds_of_wide 3 Tryz.f3 rfl rfl rfl rfl rfl rfl rfl ⟨rfl, rfl, rfl, rfl, rfl⟩ rfl rfl rfl rfl rfl (by kernel_rfl) Tryz.func3 (by unfold joinedFacts; (iterate 60 (first | (with_reducible refine jDB ?_ ?_) | skip)); all_goals (as_aux_lemma => kernel_rfl))
  (of_decide_eq_true (by kernel_rfl)) (by unfold Func.isWrapper; first | (rw [zf (by decide +kernel)]; kernel_rfl) | (rw [zu (by decide +kernel)]; exact ⟨rfl, rfl⟩))
  (fun os started H enc _ => j5f os started H enc)
end Go.Proofs.YtkglkigmdmohkaaGreatDoor
