/- FnExactSpellOf: the law returns true for every argument, and every argument reads behind the call as it read before. -/
import Derived.Test.YtcjbjmbialienaaGreatRd
import Derived.Test.YtcjbjmbialienaaGreatSB
import Derived.ProofKit
import Derived.OpenShut
import Derived.ShutString
import Derived.ChangeOld
import Derived.Below
set_option linter.unusedSimpArgs false
set_option linter.unusedVariables false
namespace Go.Proofs.YtcjbjmbialienaaGreat
open Go.ChangeShapes Go.WideShapes Go.ChangeAt Go.RowKit
open Go.ChangeMaps (open_string shut_string)
set_option maxRecDepth 100000 in
set_option maxHeartbeats 1000000 in
theorem fnExactSpellOf_lifted (os : Os) (started : os.Started) (H : Type) (enc : TypeId × Value → H) :
    ReturnsInHanded {} Tryz.checked os 4 .any (Rows.fnExactSpellOfSpec.pre6 enc Tryz.prog Tryz.f4 Rows.fnExactSpellOfRow.domain false) (Rows.fnExactSpellOfSpec.post enc Tryz.prog Tryz.f4 false true false false) := by
  refine returnsInHanded_of_change (C := Tryz.checked) ownKnob_none started (by kernel_rfl) Tryz.func4
    (ChangeSpec.witness6 (enc := enc) (C := Tryz.checked) false ⟨#[], #[.agg #[.slice none 0 0, .slice none 0 0], .agg #[.slice none 0 0, .slice none 0 0], .string ⟨#[]⟩, .string ⟨#[]⟩], []⟩ 8 (by kernel_rfl) (by kernel_rfl) (by kernel_rfl) (by kernel_rfl)) ?_
  intro W base args ds gs before hval0 hW hcnd _
  have hval : ∀ (j : Nat) t v, Tryz.f4.params[j]? = some t → args[j]? = some v → Value.okWide Tryz.prog W .any base t v := hval0
  have hW' := hW
  obtain ⟨p, q, hA0, hV, rfl, hfz, hnd⟩ := hW
  have hA : DataW.TrodAll enc Tryz.prog W 0 (fun _ => true) true Tryz.f4.params.toList args.toList ds p := hA0
  rw [Tryz.params4] at hA hval
  obtain ⟨v0, vs0, d0, ds0, p0, q0, hargs, rfl, rfl, h0, r0⟩ := trodAll_cons hA
  obtain ⟨v1, vs1, d1, ds1, p1, q1, rfl, rfl, rfl, h1, r1⟩ := trodAll_cons r0
  obtain ⟨v2, vs2, d2, ds2, p2, q2, rfl, rfl, rfl, h2, r2⟩ := trodAll_cons r1
  obtain ⟨v3, vs3, d3, ds3, p3, q3, rfl, rfl, rfl, h3, r3⟩ := trodAll_cons r2
  obtain ⟨rfl, rfl, rfl⟩ := trodAll_nil r3
  obtain rfl : args = #[v0, v1, v2, v3] := by cases args; simp_all
  obtain ⟨rfl, rfl⟩ := trodVars_none hV
  have k0 := h0
  have lt0 : ∀ x ∈ p0, x.block < W.heap.size := by obtain ⟨m, hm⟩ := k0; exact DataW.trod_lt m _ _ _ hm
  have k1 := h1
  have lt1 : ∀ x ∈ p1, x.block < W.heap.size := by obtain ⟨m, hm⟩ := k1; exact DataW.trod_lt m _ _ _ hm
  have k2 := h2
  have lt2 : ∀ x ∈ p2, x.block < W.heap.size := by obtain ⟨m, hm⟩ := k2; exact DataW.trod_lt m _ _ _ hm
  have k3 := h3
  have lt3 : ∀ x ∈ p3, x.block < W.heap.size := by obtain ⟨m, hm⟩ := k3; exact DataW.trod_lt m _ _ _ hm
  obtain ⟨fuel0, hf0⟩ := h0
  obtain ⟨x0, c0⟩ := rdConf hf0
  obtain ⟨cs0, rfl, hn0⟩ := okWide_struct Tryz.underlying45 (hval 0 45 v0 rfl rfl)
  have e0 : (Value.cells (.agg cs0)).toList = cs0.toList := rfl
  rw [e0] at c0
  have o0 := c0.1
  obtain ⟨u0_0, u0_1, l0⟩ := len2 (show cs0.toList.length = 2 from c0.2.1)
  rw [l0] at c0
  obtain ⟨s0_0, t0_0⟩ := RdC.split (q := fun _ => True) (r := fun _ => True) (by decide) c0
  obtain ⟨fuel1, hf1⟩ := h1
  obtain ⟨x1, c1⟩ := rdSeg hf1
  obtain ⟨cs1, rfl, hn1⟩ := okWide_struct Tryz.underlying49 (hval 1 49 v1 rfl rfl)
  have e1 : (Value.cells (.agg cs1)).toList = cs1.toList := rfl
  rw [e1] at c1
  have o1 := c1.1
  obtain ⟨u1_0, u1_1, l1⟩ := len2 (show cs1.toList.length = 2 from c1.2.1)
  rw [l1] at c1
  obtain ⟨s1_0, t1_0⟩ := RdC.split (q := fun _ => True) (r := fun _ => True) (by decide) c1
  obtain ⟨fuel2, hf2⟩ := h2
  obtain ⟨x2, c2⟩ := rd_str Tryz.underlying9 hf2
  obtain ⟨a2_0, rfl⟩ := okWide_string Tryz.underlying9 (hval 2 9 v2 rfl rfl)
  have o2 := c2.1
  obtain ⟨fuel3, hf3⟩ := h3
  obtain ⟨x3, c3⟩ := rd_str Tryz.underlying9 hf3
  obtain ⟨a3_0, rfl⟩ := okWide_string Tryz.underlying9 (hval 3 9 v3 rfl rfl)
  have o3 := c3.1
  clear hA0 hval0
  refine (law_any (l_FnExactSpellOf_ok (1048700)) (x0.1, x0.2, x1.1, x1.2, x2, x3) (fnExactSpellOf_law x0 x1 x2 x3 o0 o1 o2 o3) (L := [.agg [.pv (.sl .str) x0.1, .pv (.sl (.pair (.sl .str) .str)) x0.2], .agg [.pv (.sl (.pair (.int .i64) (.pair (.sl (.pair .str .str)) (.sl (.pair .str (.int .i64)))))) x1.1, .pv (.sl (.pair .str (.pair .str (.sl (.pair (.int .i64) (.sl (.int .i64))))))) x1.2], .pv .str x2, .pv .str x3]) rfl W (fun g f h => by cases h) [.agg cs0, .agg cs1, .string a2_0, .string a3_0] ⟨v3_agg (Array.ext' l0) ⟨s0_0.v1, t0_0.v1, True.intro⟩, v3_agg (Array.ext' l1) ⟨s1_0.v1, t1_0.v1, True.intro⟩, RdC.v3 c2, RdC.v3 c3, True.intro⟩).mono fun e W' ⟨he, bel⟩ => ?_
  subst he
  exact ⟨_, rfl, _, _, _, [], _, [], hW', trodAll_mk1 (shut_bool Tryz.underlying4 _), (trodAll_cons_mk (Below.trod laid_out (by kernel_rfl) (of_decide_eq_true (by kernel_rfl)) k0 bel lt0) (trodAll_cons_mk (Below.trod laid_out (by kernel_rfl) (of_decide_eq_true (by kernel_rfl)) k1 bel lt1) (trodAll_cons_mk (Below.trod laid_out (by kernel_rfl) (of_decide_eq_true (by kernel_rfl)) k2 bel lt2) (trodAll_cons_mk (Below.trod laid_out (by kernel_rfl) (of_decide_eq_true (by kernel_rfl)) k3 bel lt3) trodAll_mk0)))), rfl, bel.frame _, fun h => by cases h⟩
theorem fnExactSpellOf_holds : Rows.FnExactSpellOfSaid :=
  OpenClaim.holds_of_wide 4 Tryz.f4 rfl rfl rfl rfl rfl rfl rfl ⟨rfl, rfl, rfl, rfl, rfl⟩ rfl rfl rfl rfl rfl (by kernel_rfl) Tryz.func4 (by kernel_rfl)
    (of_decide_eq_true (by kernel_rfl)) (by unfold Func.isWrapper; first | (rw [if_pos (by decide +kernel)]; kernel_rfl) | (rw [if_neg (by decide +kernel)]; exact ⟨rfl, rfl⟩))
    (fun os started H enc _ => fnExactSpellOf_lifted os started H enc)
#print axioms fnExactSpellOf_holds
end Go.Proofs.YtcjbjmbialienaaGreat
