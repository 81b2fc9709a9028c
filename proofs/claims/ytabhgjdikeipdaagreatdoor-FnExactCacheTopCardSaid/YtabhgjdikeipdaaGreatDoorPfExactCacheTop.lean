/- FnExactCacheTop: the law returns true for every argument, and every argument reads behind the call as it read before. -/
import Derived.Test.YtabhgjdikeipdaaGreatDoorLD
import Derived.Test.YtabhgjdikeipdaaGreatDoorSH
import Derived.ProofKit
import Derived.OpenShut
import Derived.ShutString
import Derived.ChangeOld
import Derived.Below
set_option linter.unusedSimpArgs false
set_option linter.unusedVariables false
namespace Go.Proofs.YtabhgjdikeipdaaGreatDoor
open Go.WideMaps Go.WideElems
open Go.ChangeShapes Go.WideShapes Go.ChangeAt Go.RowKit
open Go.ChangeMaps (open_string shut_string)
theorem RdC.assoc {a b c : Tp} {w : World} {cs : List Value} {x : (a.D × b.D) × c.D} {p : Blk} (h : RdC (.pair (.pair a b) c) w cs x p) : RdC (.pair a (.pair b c)) w cs (x.1.1, (x.1.2, x.2)) p := by
 refine ⟨⟨h.1.1.1, h.1.1.2, h.1.2⟩, ?_, fun j e hj => h.2.2 j e ?_⟩
 .have := h.2.1
  show cs.length = a.w + (b.w + c.w)
  rw [this]
  show (a.w + b.w) + c.w = _
  omega
 .have e1 : enc (.pair a (.pair b c)) (x.1.1, (x.1.2, x.2)) = enc (.pair (.pair a b) c) x := by
   simp only [enc, zao]
  rw [<- e1]; exact hj
set_option maxRecDepth 100000 in
set_option maxHeartbeats 1000000 in
theorem jQF (os : Os) (started : os.Started) (H : Type) (enc : TypeId × Value -> H) :
  ReturnsInHanded {} Tryz.checked os 5 .any (fun w args => (Rows.fnExactCacheTopSpec.pre enc Tryz.prog Tryz.f5 [] false w args /\ laidMetH Tryz.prog jby w) /\ sizedMet enc Tryz.prog Tryz.f5 (OpenSpec.ofChange Rows.fnExactCacheTopSpec) false w args) (Rows.fnExactCacheTopSpec.post enc Tryz.prog Tryz.f5 false true false false) := by
 refine returnsInHanded_of_change_and (C := Tryz.checked) (X := fun w _ => laidMetH Tryz.prog jby w) (fun _ _ _ hh h => h.of_heap hh) ownKnob_none started (by kernel_rfl) Tryz.func5
  (ChangeSpec.witness_shaped (enc := enc) (C := Tryz.checked) (os := os) (X := fun w _ => laidMetH Tryz.prog jby w) false (World.doorLaid Tryz.prog 400 os) #[.agg #[.int .i64 0, .int .i64 0, .slice none 0 0], .agg #[.slice none 0 0, .slice none 0 0, .slice none 0 0], .int .i64 0, .agg #[.int .i64 0, .string ⟨#[]⟩, .slice none 0 0, .int .i64 0, .int .i64 0, .slice none 0 0]] 8 rfl (World.shaped_of_RefB (by kernel_rfl) (by kernel_rfl)) (by kernel_rfl) (by kernel_rfl) (by kernel_rfl) (jqf os _)) ?_
 intro W base args ds gs before hval0 hW _ _ hL _
 have hval : ∀ (j : Nat) t v, Tryz.f5.params[j]? = some t -> args[j]? = some v -> Value.okWide Tryz.prog W .any base t v := hval0
 have hW' := hW
 obtain ⟨p, q, hA0, hV, rfl, hfz, hnd⟩ := hW
 have hA : DataW.TrodAll enc Tryz.prog W 0 (fun _ => true) true Tryz.f5.params.toList args.toList ds p := hA0
 rw [Tryz.params5] at hA hval
 obtain ⟨v0, vs0, d0, ds0, p0, q0, hargs, rfl, rfl, h0, r0⟩ := trodAll_cons hA
 obtain ⟨v1, vs1, d1, ds1, p1, q1, rfl, rfl, rfl, h1, r1⟩ := trodAll_cons r0
 obtain ⟨v2, vs2, d2, ds2, p2, q2, rfl, rfl, rfl, h2, r2⟩ := trodAll_cons r1
 obtain ⟨v3, vs3, d3, ds3, p3, q3, rfl, rfl, rfl, h3, r3⟩ := trodAll_cons r2
 obtain ⟨rfl, rfl, rfl⟩ := trodAll_nil r3
 obtain rfl : args = #[v0, v1, v2, v3] := by cases args; simp_all
 obtain ⟨gg, tg, csg, fg, dg, pg, gh, th, csh, fh, dh, ph, gi, ti, csi, fi, di, pi, rfl, hgg, htg, hvg, hdg, hgh, hth, hvh, hdh, hgi, hti, hvi, hdi, rfl⟩ := jO6 hV
 have ltg : ∀ x ∈ pg, x.block < W.heap.size := DataW.trod_lt fg _ _ _ hdg
 have lth : ∀ x ∈ ph, x.block < W.heap.size := DataW.trod_lt fh _ _ _ hdh
 have lti : ∀ x ∈ pi, x.block < W.heap.size := DataW.trod_lt fi _ _ _ hdi
 have hkg : DataW.Trod enc Tryz.prog W 0 (fun _ => true) true tg (.agg csg) dg pg := ⟨fg, hdg⟩
 have hkh : DataW.Trod enc Tryz.prog W 0 (fun _ => true) true th (.agg csh) dh ph := ⟨fh, hdh⟩
 have hki : DataW.Trod enc Tryz.prog W 0 (fun _ => true) true ti (.agg csi) di pi := ⟨fi, hdi⟩
 obtain rfl := Option.some.inj (tMap.symm.trans (show (Tryz.prog.globals[0]?).map (·.type) = some tg from by obtain rfl := Option.some.inj (gMap.symm.trans hgg); exact htg))
 obtain rfl := Option.some.inj (tOps.symm.trans (show (Tryz.prog.globals[1]?).map (·.type) = some th from by obtain rfl := Option.some.inj (gOps.symm.trans hgh); exact hth))
 obtain rfl := Option.some.inj (jf9.symm.trans (show (Tryz.prog.globals[2]?).map (·.type) = some ti from by obtain rfl := Option.some.inj (jhU.symm.trans hgi); exact hti))
 have k0 := h0
 have lt0 : ∀ x ∈ p0, x.block < W.heap.size := by obtain ⟨m, hm⟩ := k0; exact DataW.trod_lt m _ _ _ hm
 have k1 := h1
 have lt1 : ∀ x ∈ p1, x.block < W.heap.size := by obtain ⟨m, hm⟩ := k1; exact DataW.trod_lt m _ _ _ hm
 have k2 := h2
 have lt2 : ∀ x ∈ p2, x.block < W.heap.size := by obtain ⟨m, hm⟩ := k2; exact DataW.trod_lt m _ _ _ hm
 have k3 := h3
 have lt3 : ∀ x ∈ p3, x.block < W.heap.size := by obtain ⟨m, hm⟩ := k3; exact DataW.trod_lt m _ _ _ hm
 obtain ⟨fuel0, hf0⟩ := h0
 obtain ⟨x0, c0⟩ := jQr hf0
 obtain ⟨cs0, rfl, hn0⟩ := okWide_struct Tryz.underlying61 (hval 0 61 v0 rfl rfl)
 have e0 : (Value.cells (.agg cs0)).toList = cs0.toList := rfl
 rw [e0] at c0
 have o0 := c0.1
 obtain ⟨u0_0, u0_1, u0_2, l0⟩ := len3 (show cs0.toList.length = 3 from c0.2.1)
 rw [l0] at c0
 obtain ⟨s0_0, t0_0⟩ := RdC.split (q := fun _ => True) (r := fun _ => True) (by decide) c0
 obtain ⟨s0_1, t0_1⟩ := RdC.split (q := fun _ => True) (r := fun _ => True) (by decide) t0_0
 obtain ⟨fuel1, hf1⟩ := h1
 obtain ⟨x1, c1⟩ := jIM hf1
 obtain ⟨cs1, rfl, hn1⟩ := okWide_struct Tryz.underlying67 (hval 1 67 v1 rfl rfl)
 have e1 : (Value.cells (.agg cs1)).toList = cs1.toList := rfl
 rw [e1] at c1
 have o1 := c1.1
 have c1 := RdC.assoc c1
 obtain ⟨u1_0, u1_1, u1_2, l1⟩ := len3 (show cs1.toList.length = 3 from c1.2.1)
 rw [l1] at c1
 obtain ⟨s1_0, t1_0⟩ := RdC.split (q := fun _ => True) (r := fun _ => True) (by decide) c1
 obtain ⟨s1_1, t1_1⟩ := RdC.split (q := fun _ => True) (r := fun _ => True) (by decide) t1_0
 obtain ⟨fuel2, hf2⟩ := h2
 obtain ⟨x2, c2⟩ := jay Tryz.underlying3 hf2
 obtain ⟨a2_0, rfl⟩ := okWide_int Tryz.underlying3 (hval 2 3 v2 rfl rfl)
 have o2 := c2.1
 obtain ⟨fuel3, hf3⟩ := h3
 obtain ⟨x3, c3⟩ := jA6 hf3
 obtain ⟨cs3, rfl, hn3⟩ := okWide_struct Tryz.underlying70 (hval 3 70 v3 rfl rfl)
 have e3 : (Value.cells (.agg cs3)).toList = cs3.toList := rfl
 rw [e3] at c3
 have o3 := c3.1
 obtain ⟨u3_0, u3_1, u3_2, u3_3, u3_4, u3_5, l3⟩ := len6 (show cs3.toList.length = 6 from c3.2.1)
 rw [l3] at c3
 obtain ⟨s3_0, t3_0⟩ := RdC.split (q := fun _ => True) (r := fun _ => True) (by decide) c3
 obtain ⟨s3_1, t3_1⟩ := RdC.split (q := fun _ => True) (r := fun _ => True) (by decide) t3_0
 obtain ⟨s3_2, t3_2⟩ := RdC.split (q := fun _ => True) (r := fun _ => True) (by decide) t3_1
 obtain ⟨s3_3, t3_3⟩ := RdC.split (q := fun _ => True) (r := fun _ => True) (by decide) t3_2
 obtain ⟨s3_4, t3_4⟩ := RdC.split (q := fun _ => True) (r := fun _ => True) (by decide) t3_3
 clear hA0 hval0
 refine (jqk (jP2 (1048700)) (x0.1, x0.2.1, x0.2.2, x1.1.1, x1.1.2, x1.2, x2, x3.1, x3.2.1, x3.2.2.1, x3.2.2.2.1, x3.2.2.2.2.1, x3.2.2.2.2.2) (fnExactCacheTop_law x0 x1 x2 x3 o0 o1 o2 o3) (L := [.agg [.pv (.int .i64) x0.1, .pv (.int .i64) x0.2.1, .pv (.sl (.pair .str (.sl (.pair (.int .i64) (.int .i64))))) x0.2.2], .agg [.pv (.sl .str) x1.1.1, .pv (.sl (.pair (.sl .str) .str)) x1.1.2, .pv (.sl (.pair (.pair (.sl (.pair (.int .i64) (.pair (.sl (.pair .str .str)) (.sl (.pair .str (.int .i64)))))) (.sl (.pair .str (.pair .str (.sl (.pair (.int .i64) (.sl (.int .i64)))))))) (.sl (.int .i64)))) x1.2], .pv (.int .i64) x2, .agg [.pv (.int .i64) x3.1, .pv .str x3.2.1, .pv (.sl .str) x3.2.2.1, .pv (.int .i64) x3.2.2.2.1, .pv (.int .i64) x3.2.2.2.2.1, .pv (.sl .q) x3.2.2.2.2.2]]) rfl W (jnO hL) [.agg cs0, .agg cs1, .int .i64 a2_0, .agg cs3] ⟨jik (Array.ext' l0) ⟨s0_0.v1, s0_1.v1, t0_1.v1, True.intro⟩, jik (Array.ext' l1) ⟨s1_0.v1, s1_1.v1, t1_1.v1, True.intro⟩, RdC.v3 c2, jik (Array.ext' l3) ⟨s3_0.v1, s3_1.v1, s3_2.v1, s3_3.v1, s3_4.v1, t3_4.v1, True.intro⟩, True.intro⟩).mono fun e W' ⟨he, bel⟩ => ?_
 subst he
 obtain ⟨fg2, hdg2⟩ := Below.trod laid_out (by kernel_rfl) (of_decide_eq_true (by kernel_rfl)) hkg bel ltg
 obtain ⟨fh2, hdh2⟩ := Below.trod laid_out (by kernel_rfl) (of_decide_eq_true (by kernel_rfl)) hkh bel lth
 obtain ⟨fi2, hdi2⟩ := Below.trod laid_out (by kernel_rfl) (of_decide_eq_true (by kernel_rfl)) hki bel lti
 exact ⟨_, rfl, _, _, _, [], _, _, hW', trodAll_mk1 (shut_bool Tryz.underlying4 _), (trodAll_cons_mk (Below.trod laid_out (by kernel_rfl) (of_decide_eq_true (by kernel_rfl)) k0 bel lt0) (trodAll_cons_mk (Below.trod laid_out (by kernel_rfl) (of_decide_eq_true (by kernel_rfl)) k1 bel lt1) (trodAll_cons_mk (Below.trod laid_out (by kernel_rfl) (of_decide_eq_true (by kernel_rfl)) k2 bel lt2) (trodAll_cons_mk (Below.trod laid_out (by kernel_rfl) (of_decide_eq_true (by kernel_rfl)) k3 bel lt3) trodAll_mk0)))), jPd hgg htg (jsc hgg hvg bel) hdg2 hgh hth (jsc hgh hvh bel) hdh2 hgi hti (jsc hgi hvi bel) hdi2, bel.frame _, fun h => by cases h⟩
theorem jDB {a b : Bool} (h1 : a = true) (h2 : b = true) : (a && b) = true := by rw [h1, h2]; rfl
set_option maxHeartbeats 40000000 in
theorem jQc : Rows.FnExactCacheTopSaid :=
 OpenClaim.holds_of_wide 5 Tryz.f5 rfl rfl rfl rfl rfl rfl rfl ⟨rfl, rfl, rfl, rfl, rfl⟩ rfl rfl rfl rfl rfl (by kernel_rfl) Tryz.func5 (by unfold joinedFacts; (iterate 60 (first | (with_reducible refine jDB ?_ ?_) | skip)); all_goals (as_aux_lemma => kernel_rfl))
  (of_decide_eq_true (by kernel_rfl)) (by unfold Func.isWrapper; first | (rw [zf (by decide +kernel)]; kernel_rfl) | (rw [zu (by decide +kernel)]; exact ⟨rfl, rfl⟩))
  (fun os started H enc _ => jQF os started H enc)
end Go.Proofs.YtabhgjdikeipdaaGreatDoor
