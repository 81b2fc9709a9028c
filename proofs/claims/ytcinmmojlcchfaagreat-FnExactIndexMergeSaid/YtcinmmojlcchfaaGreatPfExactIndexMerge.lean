/- FnExactIndexMerge: the law returns true for every argument, and every argument reads behind the call as it read before. -/
import Derived.Test.YtcinmmojlcchfaaGreatRd
import Derived.Test.YtcinmmojlcchfaaGreatSF
import Derived.ProofKit
import Derived.OpenShut
import Derived.ShutString
import Derived.ChangeOld
import Derived.Below
set_option linter.unusedSimpArgs false
set_option linter.unusedVariables false
namespace Go.Proofs.YtcinmmojlcchfaaGreat
open Go.ChangeShapes Go.WideShapes Go.ChangeAt Go.RowKit
open Go.ChangeMaps (open_string shut_string)
theorem RdC.assoc {a b c : Tp} {w : World} {cs : List Value} {x : (a.D × b.D) × c.D} {p : Blk} (h : RdC (.pair (.pair a b) c) w cs x p) : RdC (.pair a (.pair b c)) w cs (x.1.1, (x.1.2, x.2)) p := by
 refine ⟨⟨h.1.1.1, h.1.1.2, h.1.2⟩, ?_, fun j e hj => h.2.2 j e ?_⟩
 .have := h.2.1
  show cs.length = a.w + (b.w + c.w)
  rw [this]
  show (a.w + b.w) + c.w = _
  omega
 .have e1 : enc (.pair a (.pair b c)) (x.1.1, (x.1.2, x.2)) = enc (.pair (.pair a b) c) x := by
   simp only [enc, zao]
  rw [<- e1]; exact hj
set_option maxRecDepth 100000 in
set_option maxHeartbeats 1000000 in
theorem j4H (os : Os) (started : os.Started) (H : Type) (enc : TypeId × Value -> H) :
  ReturnsInHanded {} Tryz.checked os 3 .any (Rows.fnExactIndexMergeSpec.pre6 enc Tryz.prog Tryz.f3 Rows.fnExactIndexMergeRow.domain false) (Rows.fnExactIndexMergeSpec.post enc Tryz.prog Tryz.f3 false true false false) := by
 refine returnsInHanded_of_change (C := Tryz.checked) ownKnob_none started (by kernel_rfl) Tryz.func3
  (ChangeSpec.witness6 (enc := enc) (C := Tryz.checked) false ⟨#[], #[.agg #[.slice none 0 0, .slice none 0 0, .slice none 0 0], .int .i64 0], []⟩ 8 (by kernel_rfl) (by kernel_rfl) (by kernel_rfl) (by kernel_rfl)) ?_
 intro W base args ds gs before hval0 hW hcnd _
 have hval : ∀ (j : Nat) t v, Tryz.f3.params[j]? = some t -> args[j]? = some v -> Value.okWide Tryz.prog W .any base t v := hval0
 have hW' := hW
 obtain ⟨p, q, hA0, hV, rfl, hfz, hnd⟩ := hW
 have hA : DataW.TrodAll enc Tryz.prog W 0 (fun _ => true) true Tryz.f3.params.toList args.toList ds p := hA0
 rw [Tryz.params3] at hA hval
 obtain ⟨v0, vs0, d0, ds0, p0, q0, hargs, rfl, rfl, h0, r0⟩ := trodAll_cons hA
 obtain ⟨v1, vs1, d1, ds1, p1, q1, rfl, rfl, rfl, h1, r1⟩ := trodAll_cons r0
 obtain ⟨rfl, rfl, rfl⟩ := trodAll_nil r1
 obtain rfl : args = #[v0, v1] := by cases args; simp_all
 obtain ⟨rfl, rfl⟩ := trodVars_none hV
 have k0 := h0
 have lt0 : ∀ x ∈ p0, x.block < W.heap.size := by obtain ⟨m, hm⟩ := k0; exact DataW.trod_lt m _ _ _ hm
 have k1 := h1
 have lt1 : ∀ x ∈ p1, x.block < W.heap.size := by obtain ⟨m, hm⟩ := k1; exact DataW.trod_lt m _ _ _ hm
 obtain ⟨fuel0, hf0⟩ := h0
 obtain ⟨x0, c0⟩ := jIM hf0
 obtain ⟨cs0, rfl, hn0⟩ := okWide_struct Tryz.underlying28 (hval 0 28 v0 rfl rfl)
 have e0 : (Value.cells (.agg cs0)).toList = cs0.toList := rfl
 rw [e0] at c0
 have o0 := c0.1
 have c0 := RdC.assoc c0
 obtain ⟨u0_0, u0_1, u0_2, l0⟩ := len3 (show cs0.toList.length = 3 from c0.2.1)
 rw [l0] at c0
 obtain ⟨s0_0, t0_0⟩ := RdC.split (q := fun _ => True) (r := fun _ => True) (by decide) c0
 obtain ⟨s0_1, t0_1⟩ := RdC.split (q := fun _ => True) (r := fun _ => True) (by decide) t0_0
 obtain ⟨fuel1, hf1⟩ := h1
 obtain ⟨x1, c1⟩ := jay Tryz.underlying3 hf1
 obtain ⟨a1_0, rfl⟩ := okWide_int Tryz.underlying3 (hval 1 3 v1 rfl rfl)
 have o1 := c1.1
 clear hA0 hval0
 refine (jqk (j4I (1048700)) (x0.1.1, x0.1.2, x0.2, x1) (j4F x0 x1 o0 o1) (L := [.agg [.pv (.sl .str) x0.1.1, .pv (.sl (.pair (.sl .str) .str)) x0.1.2, .pv (.sl (.pair (.pair (.sl (.pair (.int .i64) (.pair (.sl (.pair .str .str)) (.sl (.pair .str (.int .i64)))))) (.sl (.pair .str (.pair .str (.sl (.pair (.int .i64) (.sl (.int .i64)))))))) (.sl (.int .i64)))) x0.2], .pv (.int .i64) x1]) rfl W (fun g f h => by cases h) [.agg cs0, .int .i64 a1_0] ⟨jik (Array.ext' l0) ⟨s0_0.v1, s0_1.v1, t0_1.v1, True.intro⟩, RdC.v3 c1, True.intro⟩).mono fun e W' ⟨he, bel⟩ => ?_
 subst he
 exact ⟨_, rfl, _, _, _, [], _, [], hW', trodAll_mk1 (shut_bool Tryz.underlying4 _), (trodAll_cons_mk (Below.trod laid_out (by kernel_rfl) (of_decide_eq_true (by kernel_rfl)) k0 bel lt0) (trodAll_cons_mk (Below.trod laid_out (by kernel_rfl) (of_decide_eq_true (by kernel_rfl)) k1 bel lt1) trodAll_mk0)), rfl, bel.frame _, fun h => by cases h⟩
theorem jDB {a b : Bool} (h1 : a = true) (h2 : b = true) : (a && b) = true := by rw [h1, h2]; rfl
set_option maxHeartbeats 40000000 in
theorem fnExactIndexMerge_holds : Rows.FnExactIndexMergeSaid :=
 OpenClaim.holds_of_wide 3 Tryz.f3 rfl rfl rfl rfl rfl rfl rfl ⟨rfl, rfl, rfl, rfl, rfl⟩ rfl rfl rfl rfl rfl (by kernel_rfl) Tryz.func3 (by unfold joinedFacts; (iterate 60 (first | (with_reducible refine jDB ?_ ?_) | skip)); all_goals (as_aux_lemma => kernel_rfl))
  (of_decide_eq_true (by kernel_rfl)) (by unfold Func.isWrapper; first | (rw [zf (by decide +kernel)]; kernel_rfl) | (rw [zu (by decide +kernel)]; exact ⟨rfl, rfl⟩))
  (fun os started H enc _ => j4H os started H enc)
#print axioms fnExactIndexMerge_holds
end Go.Proofs.YtcinmmojlcchfaaGreat
