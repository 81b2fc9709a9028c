/- FnKnotsHalf: the law returns true for every argument, and every argument reads behind the call as it read before. -/
import Derived.Test.YtlhkdngkjodgiaaRd
import Derived.Test.YtlhkdngkjodgiaaKN
import Derived.ProofKit
import Derived.OpenShut
import Derived.ShutString
import Derived.ChangeOld
import Derived.Below
set_option linter.unusedSimpArgs false
set_option linter.unusedVariables false
namespace Go.Proofs.Ytlhkdngkjodgiaa
open Go.ChangeShapes Go.WideShapes Go.ChangeAt Go.RowKit
open Go.ChangeMaps (open_string shut_string)
set_option maxRecDepth 100000 in
set_option maxHeartbeats 1000000 in
theorem fnKnotsHalf_lifted (os : Os) (started : os.Started) (H : Type) (enc : TypeId × Value → H) :
    ReturnsInHanded {} Try.checked os 5 .any (Rows.fnKnotsHalfSpec.pre6 enc Try.prog Try.f5 Rows.fnKnotsHalfRow.domain false) (Rows.fnKnotsHalfSpec.post enc Try.prog Try.f5 false true false false) := by
  refine returnsInHanded_of_change (C := Try.checked) ownKnob_none started (by kernel_rfl) Try.func5
    (ChangeSpec.witness6 (enc := enc) (C := Try.checked) false ⟨#[], #[.slice none 0 0, .slice none 0 0], []⟩ 8 (by kernel_rfl) (by kernel_rfl) (by kernel_rfl) (by kernel_rfl)) ?_
  intro W base args ds gs before hval0 hW hcnd _
  have hval : ∀ (j : Nat) t v, Try.f5.params[j]? = some t → args[j]? = some v → Value.okWide Try.prog W .any base t v := hval0
  have hW' := hW
  obtain ⟨p, q, hA0, hV, rfl, hfz, hnd⟩ := hW
  have hA : DataW.TrodAll enc Try.prog W 0 (fun _ => true) true Try.f5.params.toList args.toList ds p := hA0
  rw [Try.params5] at hA hval
  obtain ⟨v0, vs0, d0, ds0, p0, q0, hargs, rfl, rfl, h0, r0⟩ := trodAll_cons hA
  obtain ⟨v1, vs1, d1, ds1, p1, q1, rfl, rfl, rfl, h1, r1⟩ := trodAll_cons r0
  obtain ⟨rfl, rfl, rfl⟩ := trodAll_nil r1
  obtain rfl : args = #[v0, v1] := by cases args; simp_all
  obtain ⟨rfl, rfl⟩ := trodVars_none hV
  have k0 := h0
  have lt0 : ∀ x ∈ p0, x.block < W.heap.size := by obtain ⟨m, hm⟩ := k0; exact DataW.trod_lt m _ _ _ hm
  have k1 := h1
  have lt1 : ∀ x ∈ p1, x.block < W.heap.size := by obtain ⟨m, hm⟩ := k1; exact DataW.trod_lt m _ _ _ hm
  obtain ⟨fuel0, hf0⟩ := h0
  obtain ⟨x0, c0⟩ := rd_slice (r := (.int .u8)) (by decide) Try.underlying22 (by kernel_rfl) (fun n cs y hy _ => rd_int Try.underlying5 hy) hf0
  obtain ⟨a0_0, a0_1, a0_2, rfl⟩ := okWide_slice Try.underlying22 (hval 0 22 v0 rfl rfl)
  have o0 := c0.1
  obtain ⟨fuel1, hf1⟩ := h1
  obtain ⟨x1, c1⟩ := rd_slice (r := (.int .u8)) (by decide) Try.underlying22 (by kernel_rfl) (fun n cs y hy _ => rd_int Try.underlying5 hy) hf1
  obtain ⟨a1_0, a1_1, a1_2, rfl⟩ := okWide_slice Try.underlying22 (hval 1 22 v1 rfl rfl)
  have o1 := c1.1
  clear hA0 hval0
  refine (law_any (l_FnKnotsHalf_ok (1048700)) (x0, x1) (fnKnotsHalf_law x0 x1 o0 o1) (L := [.pv (.sl (.int .u8)) x0, .pv (.sl (.int .u8)) x1]) rfl W [.slice a0_0 a0_1 a0_2, .slice a1_0 a1_1 a1_2] ⟨RdC.v3 c0, RdC.v3 c1, True.intro⟩).mono fun e W' ⟨he, bel⟩ => ?_
  subst he
  exact ⟨_, rfl, _, _, _, [], _, [], hW', trodAll_mk1 (shut_bool Try.underlying4 _), (trodAll_cons_mk (Below.trod laid_out (by kernel_rfl) (of_decide_eq_true (by kernel_rfl)) k0 bel lt0) (trodAll_cons_mk (Below.trod laid_out (by kernel_rfl) (of_decide_eq_true (by kernel_rfl)) k1 bel lt1) trodAll_mk0)), rfl, bel.frame _, fun h => by cases h⟩
theorem fnKnotsHalf_holds : Rows.FnKnotsHalfSaid :=
  OpenClaim.holds_of_wide 5 Try.f5 rfl rfl rfl rfl rfl rfl rfl ⟨rfl, rfl, rfl, rfl, rfl⟩ rfl rfl rfl rfl rfl (by kernel_rfl) Try.func5 (by kernel_rfl)
    (of_decide_eq_true (by kernel_rfl)) (by unfold Func.isWrapper; first | (rw [if_pos (by decide +kernel)]; kernel_rfl) | (rw [if_neg (by decide +kernel)]; exact ⟨rfl, rfl⟩))
    (fun os started H enc _ => fnKnotsHalf_lifted os started H enc)
#print axioms fnKnotsHalf_holds
end Go.Proofs.Ytlhkdngkjodgiaa
