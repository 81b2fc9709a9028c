/- FnExactCachePut: the law returns true for every argument, and every argument reads behind the call as it read before. -/
import Derived.Test.YthodbhjnfeahhaaRd
import Derived.Test.YthodbhjnfeahhaaPA
import Derived.ProofKit
import Derived.OpenShut
import Derived.ShutString
import Derived.ChangeOld
import Derived.Below
set_option linter.unusedSimpArgs false
set_option linter.unusedVariables false
namespace Go.Proofs.Ythodbhjnfeahhaa
open Go.ChangeShapes Go.WideShapes Go.ChangeAt Go.RowKit
open Go.ChangeMaps (open_string shut_string)
set_option maxRecDepth 100000 in
set_option maxHeartbeats 1000000 in
theorem fnExactCachePut_lifted (os : Os) (started : os.Started) (H : Type) (enc : TypeId × Value → H) :
    ReturnsInHanded {} Try.checked os 9 .any (Rows.fnExactCachePutSpec.pre6 enc Try.prog Try.f9 Rows.fnExactCachePutRow.domain false) (Rows.fnExactCachePutSpec.post enc Try.prog Try.f9 false true false false) := by
  refine returnsInHanded_of_change (C := Try.checked) ownKnob_none started (by kernel_rfl) Try.func9
    (ChangeSpec.witness6 (enc := enc) (C := Try.checked) false ⟨#[], #[.agg #[.int .i64 0, .int .i64 0, .slice none 0 0], .string ⟨#[]⟩, .int .i64 0, .slice none 0 0], []⟩ 8 (by kernel_rfl) (by kernel_rfl) (by kernel_rfl) (by kernel_rfl)) ?_
  intro W base args ds gs before hval0 hW hcnd _
  have hval : ∀ (j : Nat) t v, Try.f9.params[j]? = some t → args[j]? = some v → Value.okWide Try.prog W .any base t v := hval0
  have hW' := hW
  obtain ⟨p, q, hA0, hV, rfl, hfz, hnd⟩ := hW
  have hA : DataW.TrodAll enc Try.prog W 0 (fun _ => true) true Try.f9.params.toList args.toList ds p := hA0
  rw [Try.params9] at hA hval
  obtain ⟨v0, vs0, d0, ds0, p0, q0, hargs, rfl, rfl, h0, r0⟩ := trodAll_cons hA
  obtain ⟨v1, vs1, d1, ds1, p1, q1, rfl, rfl, rfl, h1, r1⟩ := trodAll_cons r0
  obtain ⟨v2, vs2, d2, ds2, p2, q2, rfl, rfl, rfl, h2, r2⟩ := trodAll_cons r1
  obtain ⟨v3, vs3, d3, ds3, p3, q3, rfl, rfl, rfl, h3, r3⟩ := trodAll_cons r2
  obtain ⟨rfl, rfl, rfl⟩ := trodAll_nil r3
  obtain rfl : args = #[v0, v1, v2, v3] := by cases args; simp_all
  obtain ⟨rfl, rfl⟩ := trodVars_none hV
  have k0 := h0
  have lt0 : ∀ x ∈ p0, x.block < W.heap.size := by obtain ⟨m, hm⟩ := k0; exact DataW.trod_lt m _ _ _ hm
  have k1 := h1
  have lt1 : ∀ x ∈ p1, x.block < W.heap.size := by obtain ⟨m, hm⟩ := k1; exact DataW.trod_lt m _ _ _ hm
  have k2 := h2
  have lt2 : ∀ x ∈ p2, x.block < W.heap.size := by obtain ⟨m, hm⟩ := k2; exact DataW.trod_lt m _ _ _ hm
  have k3 := h3
  have lt3 : ∀ x ∈ p3, x.block < W.heap.size := by obtain ⟨m, hm⟩ := k3; exact DataW.trod_lt m _ _ _ hm
  obtain ⟨fuel0, hf0⟩ := h0
  obtain ⟨x0, c0⟩ := rdCache hf0
  obtain ⟨cs0, rfl, hn0⟩ := okWide_struct Try.underlying35 (hval 0 35 v0 rfl rfl)
  have e0 : (Value.cells (.agg cs0)).toList = cs0.toList := rfl
  rw [e0] at c0
  have o0 := c0.1
  obtain ⟨u0_0, u0_1, u0_2, l0⟩ := len3 (show cs0.toList.length = 3 from c0.2.1)
  rw [l0] at c0
  obtain ⟨s0_0, t0_0⟩ := RdC.split (q := fun _ => True) (r := fun _ => True) (by decide) c0
  obtain ⟨s0_1, t0_1⟩ := RdC.split (q := fun _ => True) (r := fun _ => True) (by decide) t0_0
  obtain ⟨fuel1, hf1⟩ := h1
  obtain ⟨x1, c1⟩ := rd_str Try.underlying9 hf1
  obtain ⟨a1_0, rfl⟩ := okWide_string Try.underlying9 (hval 1 9 v1 rfl rfl)
  have o1 := c1.1
  obtain ⟨fuel2, hf2⟩ := h2
  obtain ⟨x2, c2⟩ := rd_int Try.underlying3 hf2
  obtain ⟨a2_0, rfl⟩ := okWide_int Try.underlying3 (hval 2 3 v2 rfl rfl)
  have o2 := c2.1
  obtain ⟨fuel3, hf3⟩ := h3
  obtain ⟨x3, c3⟩ := rd_slice (r := (.pair (.int .i64) (.int .i64))) (by decide) Try.underlying54 (by kernel_rfl) (fun n cs y hy _ => rdHit hy) hf3
  obtain ⟨a3_0, a3_1, a3_2, rfl⟩ := okWide_slice Try.underlying54 (hval 3 54 v3 rfl rfl)
  have o3 := c3.1
  clear hA0 hval0
  refine (law_any (l_FnExactCachePut_ok (1048700 + 3)) (x0.1, x0.2.1, x0.2.2, x1, x2, x3) (fnExactCachePut_law x0 x1 x2 x3 o0 o1 o2 o3) (L := [.agg [.pv (.int .i64) x0.1, .pv (.int .i64) x0.2.1, .pv (.sl (.pair .str (.sl (.pair (.int .i64) (.int .i64))))) x0.2.2], .pv .str x1, .pv (.int .i64) x2, .pv (.sl (.pair (.int .i64) (.int .i64))) x3]) rfl W [.agg cs0, .string a1_0, .int .i64 a2_0, .slice a3_0 a3_1 a3_2] ⟨v3_agg (Array.ext' l0) ⟨s0_0.v1, s0_1.v1, t0_1.v1, True.intro⟩, RdC.v3 c1, RdC.v3 c2, RdC.v3 c3, True.intro⟩).mono fun e W' ⟨he, bel⟩ => ?_
  subst he
  exact ⟨_, rfl, _, _, _, [], _, [], hW', trodAll_mk1 (shut_bool Try.underlying4 _), (trodAll_cons_mk (Below.trod laid_out (by kernel_rfl) (of_decide_eq_true (by kernel_rfl)) k0 bel lt0) (trodAll_cons_mk (Below.trod laid_out (by kernel_rfl) (of_decide_eq_true (by kernel_rfl)) k1 bel lt1) (trodAll_cons_mk (Below.trod laid_out (by kernel_rfl) (of_decide_eq_true (by kernel_rfl)) k2 bel lt2) (trodAll_cons_mk (Below.trod laid_out (by kernel_rfl) (of_decide_eq_true (by kernel_rfl)) k3 bel lt3) trodAll_mk0)))), rfl, bel.frame _, fun h => by cases h⟩
theorem fnExactCachePut_holds : Rows.FnExactCachePutSaid :=
  OpenClaim.holds_of_wide 9 Try.f9 rfl rfl rfl rfl rfl rfl rfl ⟨rfl, rfl, rfl, rfl, rfl⟩ rfl rfl rfl rfl rfl (by kernel_rfl) Try.func9 (by kernel_rfl)
    (of_decide_eq_true (by kernel_rfl)) (by unfold Func.isWrapper; first | (rw [if_pos (by decide +kernel)]; kernel_rfl) | (rw [if_neg (by decide +kernel)]; exact ⟨rfl, rfl⟩))
    (fun os started H enc _ => fnExactCachePut_lifted os started H enc)
#print axioms fnExactCachePut_holds
end Go.Proofs.Ythodbhjnfeahhaa
