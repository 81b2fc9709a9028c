/- FnExactDiskOpen: the law returns true for every argument, and every argument reads behind the call as it read before. -/
import Derived.Test.YtcinmmojlcchfaaGreatDoorLD
import Derived.Test.YtcinmmojlcchfaaGreatDoorSH1
import Derived.ProofKit
import Derived.OpenShut
import Derived.ShutString
import Derived.ChangeOld
import Derived.Below
set_option linter.unusedSimpArgs false
set_option linter.unusedVariables false
namespace Go.Proofs.YtcinmmojlcchfaaGreatDoor
open Go.WideMaps Go.WideElems
open Go.ChangeShapes Go.WideShapes Go.ChangeAt Go.RowKit
open Go.ChangeMaps (open_string shut_string)
set_option maxRecDepth 100000 in
set_option maxHeartbeats 1000000 in
theorem jZ4 (os : Os) (started : os.Started) (H : Type) (enc : TypeId × Value -> H) :
  ReturnsInHanded {} Tryz.checked os 5 .any (fun w args => (Rows.fnExactDiskOpenSpec.pre enc Tryz.prog Tryz.f5 [] false w args /\ laidMetH Tryz.prog jby w) /\ sizedMet enc Tryz.prog Tryz.f5 (OpenSpec.ofChange Rows.fnExactDiskOpenSpec) false w args) (Rows.fnExactDiskOpenSpec.post enc Tryz.prog Tryz.f5 false true false false) := by
 refine jXW (C := Tryz.checked) (X := fun w _ => laidMetH Tryz.prog jby w) (fun _ _ _ hh h => h.of_heap hh) ownKnob_none started (by kernel_rfl) Tryz.func5
  (ChangeSpec.witness_shaped (enc := enc) (C := Tryz.checked) (os := os) (X := fun w _ => laidMetH Tryz.prog jby w) false (World.laidAll Tryz.prog os jby) #[.agg #[.slice none 0 0, .slice none 0 0], .agg #[.slice none 0 0]] 8 (World.laidAll_os _ _ _) (World.shaped_of_ZipB (by kernel_rfl) (by kernel_rfl)) (by kernel_rfl) (by kernel_rfl) (by kernel_rfl) (jqf os _)) ?_
 intro W base args ds gs before hval0 hW _ _ hL hsh _
 have hval : ∀ (j : Nat) t v, Tryz.f5.params[j]? = some t -> args[j]? = some v -> Value.okWide Tryz.prog W .any base t v := hval0
 have hW' := hW
 obtain ⟨p, q, hA0, hV, rfl, hfz, hnd⟩ := hW
 have hA : DataW.TrodAll enc Tryz.prog W 0 (fun _ => true) true Tryz.f5.params.toList args.toList ds p := hA0
 rw [Tryz.params5] at hA hval
 obtain ⟨v0, vs0, d0, ds0, p0, q0, hargs, rfl, rfl, h0, r0⟩ := trodAll_cons hA
 obtain ⟨v1, vs1, d1, ds1, p1, q1, rfl, rfl, rfl, h1, r1⟩ := trodAll_cons r0
 obtain ⟨rfl, rfl, rfl⟩ := trodAll_nil r1
 obtain rfl : args = #[v0, v1] := by cases args; simp_all
 obtain ⟨rfl, rfl⟩ := trodVars_none hV
 have k0 := h0
 have lt0 : ∀ x ∈ p0, x.block < W.heap.size := by obtain ⟨m, hm⟩ := k0; exact DataW.trod_lt m _ _ _ hm
 have k1 := h1
 have lt1 : ∀ x ∈ p1, x.block < W.heap.size := by obtain ⟨m, hm⟩ := k1; exact DataW.trod_lt m _ _ _ hm
 obtain ⟨fuel0, hf0⟩ := h0
 obtain ⟨x0, c0⟩ := jkp hf0
 obtain ⟨cs0, rfl, hn0⟩ := okWide_struct Tryz.underlying25 (hval 0 25 v0 rfl rfl)
 have e0 : (Value.cells (.agg cs0)).toList = cs0.toList := rfl
 rw [e0] at c0
 have o0 := c0.1
 obtain ⟨u0_0, u0_1, l0⟩ := len2 (show cs0.toList.length = 2 from c0.2.1)
 rw [l0] at c0
 obtain ⟨s0_0, t0_0⟩ := RdC.split (q := fun _ => True) (r := fun _ => True) (by decide) c0
 obtain ⟨fuel1, hf1⟩ := h1
 obtain ⟨x1, c1⟩ := jZ0 hf1
 obtain ⟨cs1, rfl, hn1⟩ := okWide_struct Tryz.underlying62 (hval 1 62 v1 rfl rfl)
 have e1 : (Value.cells (.agg cs1)).toList = cs1.toList := rfl
 rw [e1] at c1
 have o1 := c1.1
 obtain ⟨u1_0, l1⟩ := len1 (show cs1.toList.length = 1 from c1.2.1)
 rw [l1] at c1
 clear hA0 hval0
 refine (jqk (j0o (1048700)) (x0.1, x0.2, x1) (j0Q x0 x1 o0 o1) (L := [.agg [.pv (.sl .str) x0.1, .pv (.sl (.pair (.sl .str) .str)) x0.2], .agg [.pv (.sl (.pair .str .str)) x1]]) rfl W (jnO hL hsh) [.agg cs0, .agg cs1] ⟨jik (Array.ext' l0) ⟨s0_0.v1, t0_0.v1, True.intro⟩, jik (Array.ext' l1) ⟨c1.v1, True.intro⟩, True.intro⟩).mono fun e W' ⟨he, bel⟩ => ?_
 subst he
 exact ⟨_, rfl, _, _, _, [], _, [], hW', trodAll_mk1 (shut_bool Tryz.underlying4 _), (trodAll_cons_mk (Below.trod laid_out (by kernel_rfl) (of_decide_eq_true (by kernel_rfl)) k0 bel lt0) (trodAll_cons_mk (Below.trod laid_out (by kernel_rfl) (of_decide_eq_true (by kernel_rfl)) k1 bel lt1) trodAll_mk0)), rfl, bel.frame _, fun h => by cases h⟩
theorem jDB {a b : Bool} (h1 : a = true) (h2 : b = true) : (a && b) = true := by rw [h1, h2]; rfl
set_option maxHeartbeats 40000000 in
theorem j0f : Rows.FnExactDiskOpenSaid :=
 OpenClaim.holds_of_wide 5 Tryz.f5 rfl rfl rfl rfl rfl rfl rfl ⟨rfl, rfl, rfl, rfl, rfl⟩ rfl rfl rfl rfl rfl (by kernel_rfl) Tryz.func5 (by unfold joinedFacts; (iterate 60 (first | (with_reducible refine jDB ?_ ?_) | skip)); all_goals (as_aux_lemma => kernel_rfl))
  (of_decide_eq_true (by kernel_rfl)) (by unfold Func.isWrapper; first | (rw [zf (by decide +kernel)]; kernel_rfl) | (rw [zu (by decide +kernel)]; exact ⟨rfl, rfl⟩))
  (fun os started H enc _ => jZ4 os started H enc)
end Go.Proofs.YtcinmmojlcchfaaGreatDoor
