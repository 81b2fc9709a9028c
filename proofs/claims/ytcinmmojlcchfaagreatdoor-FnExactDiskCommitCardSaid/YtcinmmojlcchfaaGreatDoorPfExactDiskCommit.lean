/- FnExactDiskCommit: the law returns true for every argument, and every argument reads behind the call as it read before. -/
import Derived.Test.YtcinmmojlcchfaaGreatDoorLE
import Derived.Test.YtcinmmojlcchfaaGreatDoorSI1
import Derived.ProofKit
import Derived.OpenShut
import Derived.ShutString
import Derived.ChangeOld
import Derived.Below
set_option linter.unusedSimpArgs false
set_option linter.unusedVariables false
namespace Go.Proofs.YtcinmmojlcchfaaGreatDoor
open Go.WideMaps Go.WideElems
open Go.ChangeShapes Go.WideShapes Go.ChangeAt Go.RowKit
open Go.ChangeMaps (open_string shut_string)
theorem RdC.assoc {a b c : Tp} {w : World} {cs : List Value} {x : (a.D × b.D) × c.D} {p : Blk} (h : RdC (.pair (.pair a b) c) w cs x p) : RdC (.pair a (.pair b c)) w cs (x.1.1, (x.1.2, x.2)) p := by
 refine ⟨⟨h.1.1.1, h.1.1.2, h.1.2⟩, ?_, fun j e hj => h.2.2 j e ?_⟩
 .have := h.2.1
  show cs.length = a.w + (b.w + c.w)
  rw [this]
  show (a.w + b.w) + c.w = _
  omega
 .have e1 : enc (.pair a (.pair b c)) (x.1.1, (x.1.2, x.2)) = enc (.pair (.pair a b) c) x := by
   simp only [enc, zao]
  rw [<- e1]; exact hj
set_option maxRecDepth 100000 in
set_option maxHeartbeats 1000000 in
theorem j4o (os : Os) (started : os.Started) (H : Type) (enc : TypeId × Value -> H) :
  ReturnsInHanded {} Tryz.checked os 7 .any (fun w args => (Rows.fnExactDiskCommitSpec.pre enc Tryz.prog Tryz.f7 [] false w args /\ laidMetH Tryz.prog jby w) /\ sizedMet enc Tryz.prog Tryz.f7 (OpenSpec.ofChange Rows.fnExactDiskCommitSpec) false w args) (Rows.fnExactDiskCommitSpec.post enc Tryz.prog Tryz.f7 false true false false) := by
 refine jXW (C := Tryz.checked) (X := fun w _ => laidMetH Tryz.prog jby w) (fun _ _ _ hh h => h.of_heap hh) ownKnob_none started (by kernel_rfl) Tryz.func7
  (ChangeSpec.witness_shaped (enc := enc) (C := Tryz.checked) (os := os) (X := fun w _ => laidMetH Tryz.prog jby w) false (World.laidAll Tryz.prog os jby) #[.agg #[.slice none 0 0], .agg #[.slice none 0 0, .slice none 0 0, .slice none 0 0], .int .i64 0] 8 (World.laidAll_os _ _ _) (World.shaped_of_ZipB (by kernel_rfl) (by kernel_rfl)) (by kernel_rfl) (by kernel_rfl) (by kernel_rfl) (jqf os _)) ?_
 intro W base args ds gs before hval0 hW _ _ hL hsh _
 have hval : ∀ (j : Nat) t v, Tryz.f7.params[j]? = some t -> args[j]? = some v -> Value.okWide Tryz.prog W .any base t v := hval0
 have hW' := hW
 obtain ⟨p, q, hA0, hV, rfl, hfz, hnd⟩ := hW
 have hA : DataW.TrodAll enc Tryz.prog W 0 (fun _ => true) true Tryz.f7.params.toList args.toList ds p := hA0
 rw [Tryz.params7] at hA hval
 obtain ⟨v0, vs0, d0, ds0, p0, q0, hargs, rfl, rfl, h0, r0⟩ := trodAll_cons hA
 obtain ⟨v1, vs1, d1, ds1, p1, q1, rfl, rfl, rfl, h1, r1⟩ := trodAll_cons r0
 obtain ⟨v2, vs2, d2, ds2, p2, q2, rfl, rfl, rfl, h2, r2⟩ := trodAll_cons r1
 obtain ⟨rfl, rfl, rfl⟩ := trodAll_nil r2
 obtain rfl : args = #[v0, v1, v2] := by cases args; simp_all
 obtain ⟨rfl, rfl⟩ := trodVars_none hV
 have k0 := h0
 have lt0 : ∀ x ∈ p0, x.block < W.heap.size := by obtain ⟨m, hm⟩ := k0; exact DataW.trod_lt m _ _ _ hm
 have k1 := h1
 have lt1 : ∀ x ∈ p1, x.block < W.heap.size := by obtain ⟨m, hm⟩ := k1; exact DataW.trod_lt m _ _ _ hm
 have k2 := h2
 have lt2 : ∀ x ∈ p2, x.block < W.heap.size := by obtain ⟨m, hm⟩ := k2; exact DataW.trod_lt m _ _ _ hm
 obtain ⟨fuel0, hf0⟩ := h0
 obtain ⟨x0, c0⟩ := jZ0 hf0
 obtain ⟨cs0, rfl, hn0⟩ := okWide_struct Tryz.underlying62 (hval 0 62 v0 rfl rfl)
 have e0 : (Value.cells (.agg cs0)).toList = cs0.toList := rfl
 rw [e0] at c0
 have o0 := c0.1
 obtain ⟨u0_0, l0⟩ := len1 (show cs0.toList.length = 1 from c0.2.1)
 rw [l0] at c0
 obtain ⟨fuel1, hf1⟩ := h1
 obtain ⟨x1, c1⟩ := jIM hf1
 obtain ⟨cs1, rfl, hn1⟩ := okWide_struct Tryz.underlying75 (hval 1 75 v1 rfl rfl)
 have e1 : (Value.cells (.agg cs1)).toList = cs1.toList := rfl
 rw [e1] at c1
 have o1 := c1.1
 have c1 := RdC.assoc c1
 obtain ⟨u1_0, u1_1, u1_2, l1⟩ := len3 (show cs1.toList.length = 3 from c1.2.1)
 rw [l1] at c1
 obtain ⟨s1_0, t1_0⟩ := RdC.split (q := fun _ => True) (r := fun _ => True) (by decide) c1
 obtain ⟨s1_1, t1_1⟩ := RdC.split (q := fun _ => True) (r := fun _ => True) (by decide) t1_0
 obtain ⟨fuel2, hf2⟩ := h2
 obtain ⟨x2, c2⟩ := jay Tryz.underlying3 hf2
 obtain ⟨a2_0, rfl⟩ := okWide_int Tryz.underlying3 (hval 2 3 v2 rfl rfl)
 have o2 := c2.1
 clear hA0 hval0
 refine (jqk (j4v (1048700)) (x0, x1.1.1, x1.1.2, x1.2, x2) (j4i x0 x1 x2 o0 o1 o2) (L := [.agg [.pv (.sl (.pair .str .str)) x0], .agg [.pv (.sl .str) x1.1.1, .pv (.sl (.pair (.sl .str) .str)) x1.1.2, .pv (.sl (.pair (.pair (.sl (.pair (.int .i64) (.pair (.sl (.pair .str .str)) (.sl (.pair .str (.int .i64)))))) (.sl (.pair .str (.pair .str (.sl (.pair (.int .i64) (.sl (.int .i64)))))))) (.sl (.int .i64)))) x1.2], .pv (.int .i64) x2]) rfl W (jnO hL hsh) [.agg cs0, .agg cs1, .int .i64 a2_0] ⟨jik (Array.ext' l0) ⟨c0.v1, True.intro⟩, jik (Array.ext' l1) ⟨s1_0.v1, s1_1.v1, t1_1.v1, True.intro⟩, RdC.v3 c2, True.intro⟩).mono fun e W' ⟨he, bel⟩ => ?_
 subst he
 exact ⟨_, rfl, _, _, _, [], _, [], hW', trodAll_mk1 (shut_bool Tryz.underlying4 _), (trodAll_cons_mk (Below.trod laid_out (by kernel_rfl) (of_decide_eq_true (by kernel_rfl)) k0 bel lt0) (trodAll_cons_mk (Below.trod laid_out (by kernel_rfl) (of_decide_eq_true (by kernel_rfl)) k1 bel lt1) (trodAll_cons_mk (Below.trod laid_out (by kernel_rfl) (of_decide_eq_true (by kernel_rfl)) k2 bel lt2) trodAll_mk0))), rfl, bel.frame _, fun h => by cases h⟩
theorem jDB {a b : Bool} (h1 : a = true) (h2 : b = true) : (a && b) = true := by rw [h1, h2]; rfl
set_option maxHeartbeats 40000000 in
theorem j4g : Rows.FnExactDiskCommitSaid :=
 OpenClaim.holds_of_wide 7 Tryz.f7 rfl rfl rfl rfl rfl rfl rfl ⟨rfl, rfl, rfl, rfl, rfl⟩ rfl rfl rfl rfl rfl (by kernel_rfl) Tryz.func7 (by unfold joinedFacts; (iterate 60 (first | (with_reducible refine jDB ?_ ?_) | skip)); all_goals (as_aux_lemma => kernel_rfl))
  (of_decide_eq_true (by kernel_rfl)) (by unfold Func.isWrapper; first | (rw [zf (by decide +kernel)]; kernel_rfl) | (rw [zu (by decide +kernel)]; exact ⟨rfl, rfl⟩))
  (fun os started H enc _ => j4o os started H enc)
end Go.Proofs.YtcinmmojlcchfaaGreatDoor
