/- FnExactSortPage: the law returns true for every argument, and every argument reads behind the call as it read before. -/
import Derived.Test.YtjggioppicabbaaRd
import Derived.Test.YtjggioppicabbaaSC
import Derived.ProofKit
import Derived.OpenShut
import Derived.ShutString
import Derived.ChangeOld
import Derived.Below
set_option linter.unusedSimpArgs false
set_option linter.unusedVariables false
namespace Go.Proofs.Ytjggioppicabbaa
open Go.ChangeShapes Go.WideShapes Go.ChangeAt Go.RowKit
open Go.ChangeMaps (open_string shut_string)
set_option maxRecDepth 100000 in
set_option maxHeartbeats 1000000 in
theorem fnExactSortPage_lifted (os : Os) (started : os.Started) (H : Type) (enc : TypeId × Value → H) :
    ReturnsInHanded {} Try.checked os 9 .any (Rows.fnExactSortPageSpec.pre6 enc Try.prog Try.f9 Rows.fnExactSortPageRow.domain false) (Rows.fnExactSortPageSpec.post enc Try.prog Try.f9 false true false false) := by
  refine returnsInHanded_of_change (C := Try.checked) ownKnob_none started (by kernel_rfl) Try.func9
    (ChangeSpec.witness6 (enc := enc) (C := Try.checked) false ⟨#[], #[.slice none 0 0, .slice none 0 0, .int .i64 0, .int .i64 0], []⟩ 8 (by kernel_rfl) (by kernel_rfl) (by kernel_rfl) (by kernel_rfl)) ?_
  intro W base args ds gs before hval0 hW hcnd _
  have hval : ∀ (j : Nat) t v, Try.f9.params[j]? = some t → args[j]? = some v → Value.okWide Try.prog W .any base t v := hval0
  have hW' := hW
  obtain ⟨p, q, hA0, hV, rfl, hfz, hnd⟩ := hW
  have hA : DataW.TrodAll enc Try.prog W 0 (fun _ => true) true Try.f9.params.toList args.toList ds p := hA0
  rw [Try.params9] at hA hval
  obtain ⟨v0, vs0, d0, ds0, p0, q0, hargs, rfl, rfl, h0, r0⟩ := trodAll_cons hA
  obtain ⟨v1, vs1, d1, ds1, p1, q1, rfl, rfl, rfl, h1, r1⟩ := trodAll_cons r0
  obtain ⟨v2, vs2, d2, ds2, p2, q2, rfl, rfl, rfl, h2, r2⟩ := trodAll_cons r1
  obtain ⟨v3, vs3, d3, ds3, p3, q3, rfl, rfl, rfl, h3, r3⟩ := trodAll_cons r2
  obtain ⟨rfl, rfl, rfl⟩ := trodAll_nil r3
  obtain rfl : args = #[v0, v1, v2, v3] := by cases args; simp_all
  obtain ⟨rfl, rfl⟩ := trodVars_none hV
  have k0 := h0
  have lt0 : ∀ x ∈ p0, x.block < W.heap.size := by obtain ⟨m, hm⟩ := k0; exact DataW.trod_lt m _ _ _ hm
  have k1 := h1
  have lt1 : ∀ x ∈ p1, x.block < W.heap.size := by obtain ⟨m, hm⟩ := k1; exact DataW.trod_lt m _ _ _ hm
  have k2 := h2
  have lt2 : ∀ x ∈ p2, x.block < W.heap.size := by obtain ⟨m, hm⟩ := k2; exact DataW.trod_lt m _ _ _ hm
  have k3 := h3
  have lt3 : ∀ x ∈ p3, x.block < W.heap.size := by obtain ⟨m, hm⟩ := k3; exact DataW.trod_lt m _ _ _ hm
  obtain ⟨fuel0, hf0⟩ := h0
  obtain ⟨x0, c0⟩ := rd_slice (r := (.pair (.int .i64) (.pair (.sl (.pair .str .str)) (.sl (.pair .str (.int .i64)))))) (by decide) Try.underlying60 (by kernel_rfl) (fun n cs y hy _ => rdDoc hy) hf0
  obtain ⟨a0_0, a0_1, a0_2, rfl⟩ := okWide_slice Try.underlying60 (hval 0 60 v0 rfl rfl)
  have o0 := c0.1
  obtain ⟨fuel1, hf1⟩ := h1
  obtain ⟨x1, c1⟩ := rd_slice (r := (.pair .str .bool)) (by decide) Try.underlying26 (by kernel_rfl) (fun n cs y hy _ => rdKey hy) hf1
  obtain ⟨a1_0, a1_1, a1_2, rfl⟩ := okWide_slice Try.underlying26 (hval 1 26 v1 rfl rfl)
  have o1 := c1.1
  obtain ⟨fuel2, hf2⟩ := h2
  obtain ⟨x2, c2⟩ := rd_int Try.underlying3 hf2
  obtain ⟨a2_0, rfl⟩ := okWide_int Try.underlying3 (hval 2 3 v2 rfl rfl)
  have o2 := c2.1
  obtain ⟨fuel3, hf3⟩ := h3
  obtain ⟨x3, c3⟩ := rd_int Try.underlying3 hf3
  obtain ⟨a3_0, rfl⟩ := okWide_int Try.underlying3 (hval 3 3 v3 rfl rfl)
  have o3 := c3.1
  clear hA0 hval0
  refine (law_any (l_FnExactSortPage_ok (1048700)) (x0, x1, x2, x3) (fnExactSortPage_law x0 x1 x2 x3 o0 o1 o2 o3) (L := [.pv (.sl (.pair (.int .i64) (.pair (.sl (.pair .str .str)) (.sl (.pair .str (.int .i64)))))) x0, .pv (.sl (.pair .str .bool)) x1, .pv (.int .i64) x2, .pv (.int .i64) x3]) rfl W [.slice a0_0 a0_1 a0_2, .slice a1_0 a1_1 a1_2, .int .i64 a2_0, .int .i64 a3_0] ⟨RdC.v3 c0, RdC.v3 c1, RdC.v3 c2, RdC.v3 c3, True.intro⟩).mono fun e W' ⟨he, bel⟩ => ?_
  subst he
  exact ⟨_, rfl, _, _, _, [], _, [], hW', trodAll_mk1 (shut_bool Try.underlying4 _), (trodAll_cons_mk (Below.trod laid_out (by kernel_rfl) (of_decide_eq_true (by kernel_rfl)) k0 bel lt0) (trodAll_cons_mk (Below.trod laid_out (by kernel_rfl) (of_decide_eq_true (by kernel_rfl)) k1 bel lt1) (trodAll_cons_mk (Below.trod laid_out (by kernel_rfl) (of_decide_eq_true (by kernel_rfl)) k2 bel lt2) (trodAll_cons_mk (Below.trod laid_out (by kernel_rfl) (of_decide_eq_true (by kernel_rfl)) k3 bel lt3) trodAll_mk0)))), rfl, bel.frame _, fun h => by cases h⟩
theorem fnExactSortPage_holds : Rows.FnExactSortPageSaid :=
  OpenClaim.holds_of_wide 9 Try.f9 rfl rfl rfl rfl rfl rfl rfl ⟨rfl, rfl, rfl, rfl, rfl⟩ rfl rfl rfl rfl rfl (by kernel_rfl) Try.func9 (by kernel_rfl)
    (of_decide_eq_true (by kernel_rfl)) (by unfold Func.isWrapper; first | (rw [if_pos (by decide +kernel)]; kernel_rfl) | (rw [if_neg (by decide +kernel)]; exact ⟨rfl, rfl⟩))
    (fun os started H enc _ => fnExactSortPage_lifted os started H enc)
#print axioms fnExactSortPage_holds
end Go.Proofs.Ytjggioppicabbaa
