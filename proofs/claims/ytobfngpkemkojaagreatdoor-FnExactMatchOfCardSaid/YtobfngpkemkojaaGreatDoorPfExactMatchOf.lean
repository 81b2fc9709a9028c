/- FnExactMatchOf: the law returns true for every argument, and every argument reads behind the call as it read before. -/
import Derived.Test.YtobfngpkemkojaaGreatDoorLD
import Derived.Test.YtobfngpkemkojaaGreatDoorSF
import Derived.ProofKit
import Derived.OpenShut
import Derived.ShutString
import Derived.ChangeOld
import Derived.Below
set_option linter.unusedSimpArgs false
set_option linter.unusedVariables false
namespace Go.Proofs.YtobfngpkemkojaaGreatDoor
open Go.WideMaps Go.WideElems
open Go.ChangeShapes Go.WideShapes Go.ChangeAt Go.RowKit
open Go.ChangeMaps (open_string shut_string)
set_option maxRecDepth 100000 in
set_option maxHeartbeats 1000000 in
theorem jEm (os : Os) (started : os.Started) (H : Type) (enc : TypeId × Value → H) :
  ReturnsInHanded {} Tryz.checked os 4 .any (fun w args => (Rows.fnExactMatchOfSpec.pre enc Tryz.prog Tryz.f4 [] false w args ∧ laidMetH Tryz.prog jby w) ∧ sizedMet enc Tryz.prog Tryz.f4 (OpenSpec.ofChange Rows.fnExactMatchOfSpec) false w args) (Rows.fnExactMatchOfSpec.post enc Tryz.prog Tryz.f4 false true false false) := by
 refine returnsInHanded_of_change_and (C := Tryz.checked) (X := fun w _ => laidMetH Tryz.prog jby w) (fun _ _ _ hh h => h.of_heap hh) ownKnob_none started (by kernel_rfl) Tryz.func4
  (ChangeSpec.witness_shaped (enc := enc) (C := Tryz.checked) (os := os) (X := fun w _ => laidMetH Tryz.prog jby w) false (World.doorLaid Tryz.prog 400 os) #[.agg #[.slice none 0 0, .slice none 0 0], .agg #[.slice none 0 0, .slice none 0 0], .agg #[.int .i64 0, .string ⟨#[]⟩, .slice none 0 0, .int .i64 0, .int .i64 0, .slice none 0 0]] 8 rfl (World.shaped_of_RefB (by kernel_rfl) (by kernel_rfl)) (by kernel_rfl) (by kernel_rfl) (by kernel_rfl) (jqf os _)) ?_
 intro W base args ds gs before hval0 hW _ _ hL _
 have hval : ∀ (j : Nat) t v, Tryz.f4.params[j]? = some t → args[j]? = some v → Value.okWide Tryz.prog W .any base t v := hval0
 have hW' := hW
 obtain ⟨p, q, hA0, hV, rfl, hfz, hnd⟩ := hW
 have hA : DataW.TrodAll enc Tryz.prog W 0 (fun _ => true) true Tryz.f4.params.toList args.toList ds p := hA0
 rw [Tryz.params4] at hA hval
 obtain ⟨v0, vs0, d0, ds0, p0, q0, hargs, rfl, rfl, h0, r0⟩ := trodAll_cons hA
 obtain ⟨v1, vs1, d1, ds1, p1, q1, rfl, rfl, rfl, h1, r1⟩ := trodAll_cons r0
 obtain ⟨v2, vs2, d2, ds2, p2, q2, rfl, rfl, rfl, h2, r2⟩ := trodAll_cons r1
 obtain ⟨rfl, rfl, rfl⟩ := trodAll_nil r2
 obtain rfl : args = #[v0, v1, v2] := by cases args; simp_all
 obtain ⟨gg, tg, csg, fg, dg, pg, gh, th, csh, fh, dh, ph, rfl, hgg, htg, hvg, hdg, hgh, hth, hvh, hdh, rfl⟩ := trodVars_two hV
 have ltg : ∀ x ∈ pg, x.block < W.heap.size := DataW.trod_lt fg _ _ _ hdg
 have lth : ∀ x ∈ ph, x.block < W.heap.size := DataW.trod_lt fh _ _ _ hdh
 have hkg : DataW.Trod enc Tryz.prog W 0 (fun _ => true) true tg (.agg csg) dg pg := ⟨fg, hdg⟩
 have hkh : DataW.Trod enc Tryz.prog W 0 (fun _ => true) true th (.agg csh) dh ph := ⟨fh, hdh⟩
 obtain rfl := Option.some.inj (tMap.symm.trans (show (Tryz.prog.globals[0]?).map (·.type) = some tg from by obtain rfl := Option.some.inj (gMap.symm.trans hgg); exact htg))
 obtain rfl := Option.some.inj (jf9.symm.trans (show (Tryz.prog.globals[1]?).map (·.type) = some th from by obtain rfl := Option.some.inj (jhU.symm.trans hgh); exact hth))
 have k0 := h0
 have lt0 : ∀ x ∈ p0, x.block < W.heap.size := by obtain ⟨m, hm⟩ := k0; exact DataW.trod_lt m _ _ _ hm
 have k1 := h1
 have lt1 : ∀ x ∈ p1, x.block < W.heap.size := by obtain ⟨m, hm⟩ := k1; exact DataW.trod_lt m _ _ _ hm
 have k2 := h2
 have lt2 : ∀ x ∈ p2, x.block < W.heap.size := by obtain ⟨m, hm⟩ := k2; exact DataW.trod_lt m _ _ _ hm
 obtain ⟨fuel0, hf0⟩ := h0
 obtain ⟨x0, c0⟩ := jkp hf0
 obtain ⟨cs0, rfl, hn0⟩ := okWide_struct Tryz.underlying25 (hval 0 25 v0 rfl rfl)
 have e0 : (Value.cells (.agg cs0)).toList = cs0.toList := rfl
 rw [e0] at c0
 have o0 := c0.1
 obtain ⟨u0_0, u0_1, l0⟩ := len2 (show cs0.toList.length = 2 from c0.2.1)
 rw [l0] at c0
 obtain ⟨s0_0, t0_0⟩ := RdC.split (q := fun _ => True) (r := fun _ => True) (by decide) c0
 obtain ⟨fuel1, hf1⟩ := h1
 obtain ⟨x1, c1⟩ := jo2 hf1
 obtain ⟨cs1, rfl, hn1⟩ := okWide_struct Tryz.underlying29 (hval 1 29 v1 rfl rfl)
 have e1 : (Value.cells (.agg cs1)).toList = cs1.toList := rfl
 rw [e1] at c1
 have o1 := c1.1
 obtain ⟨u1_0, u1_1, l1⟩ := len2 (show cs1.toList.length = 2 from c1.2.1)
 rw [l1] at c1
 obtain ⟨s1_0, t1_0⟩ := RdC.split (q := fun _ => True) (r := fun _ => True) (by decide) c1
 obtain ⟨fuel2, hf2⟩ := h2
 obtain ⟨x2, c2⟩ := jA6 hf2
 obtain ⟨cs2, rfl, hn2⟩ := okWide_struct Tryz.underlying32 (hval 2 32 v2 rfl rfl)
 have e2 : (Value.cells (.agg cs2)).toList = cs2.toList := rfl
 rw [e2] at c2
 have o2 := c2.1
 obtain ⟨u2_0, u2_1, u2_2, u2_3, u2_4, u2_5, l2⟩ := len6 (show cs2.toList.length = 6 from c2.2.1)
 rw [l2] at c2
 obtain ⟨s2_0, t2_0⟩ := RdC.split (q := fun _ => True) (r := fun _ => True) (by decide) c2
 obtain ⟨s2_1, t2_1⟩ := RdC.split (q := fun _ => True) (r := fun _ => True) (by decide) t2_0
 obtain ⟨s2_2, t2_2⟩ := RdC.split (q := fun _ => True) (r := fun _ => True) (by decide) t2_1
 obtain ⟨s2_3, t2_3⟩ := RdC.split (q := fun _ => True) (r := fun _ => True) (by decide) t2_2
 obtain ⟨s2_4, t2_4⟩ := RdC.split (q := fun _ => True) (r := fun _ => True) (by decide) t2_3
 clear hA0 hval0
 refine (jqk (jEk (1048700)) (x0.1, x0.2, x1.1, x1.2, x2.1, x2.2.1, x2.2.2.1, x2.2.2.2.1, x2.2.2.2.2.1, x2.2.2.2.2.2) (fnExactMatchOf_law x0 x1 x2 o0 o1 o2) (L := [.agg [.pv (.sl .str) x0.1, .pv (.sl (.pair (.sl .str) .str)) x0.2], .agg [.pv (.sl (.pair (.int .i64) (.pair (.sl (.pair .str .str)) (.sl (.pair .str (.int .i64)))))) x1.1, .pv (.sl (.pair .str (.pair .str (.sl (.pair (.int .i64) (.sl (.int .i64))))))) x1.2], .agg [.pv (.int .i64) x2.1, .pv .str x2.2.1, .pv (.sl .str) x2.2.2.1, .pv (.int .i64) x2.2.2.2.1, .pv (.int .i64) x2.2.2.2.2.1, .pv (.sl .q) x2.2.2.2.2.2]]) rfl W (jnO hL) [.agg cs0, .agg cs1, .agg cs2] ⟨jik (Array.ext' l0) ⟨s0_0.v1, t0_0.v1, True.intro⟩, jik (Array.ext' l1) ⟨s1_0.v1, t1_0.v1, True.intro⟩, jik (Array.ext' l2) ⟨s2_0.v1, s2_1.v1, s2_2.v1, s2_3.v1, s2_4.v1, t2_4.v1, True.intro⟩, True.intro⟩).mono fun e W' ⟨he, bel⟩ => ?_
 subst he
 obtain ⟨fg2, hdg2⟩ := Below.trod laid_out (by kernel_rfl) (of_decide_eq_true (by kernel_rfl)) hkg bel ltg
 obtain ⟨fh2, hdh2⟩ := Below.trod laid_out (by kernel_rfl) (of_decide_eq_true (by kernel_rfl)) hkh bel lth
 exact ⟨_, rfl, _, _, _, [], _, _, hW', trodAll_mk1 (shut_bool Tryz.underlying4 _), (trodAll_cons_mk (Below.trod laid_out (by kernel_rfl) (of_decide_eq_true (by kernel_rfl)) k0 bel lt0) (trodAll_cons_mk (Below.trod laid_out (by kernel_rfl) (of_decide_eq_true (by kernel_rfl)) k1 bel lt1) (trodAll_cons_mk (Below.trod laid_out (by kernel_rfl) (of_decide_eq_true (by kernel_rfl)) k2 bel lt2) trodAll_mk0))), jCT hgg htg (jsc hgg hvg bel) hdg2 hgh hth (jsc hgh hvh bel) hdh2, bel.frame _, fun h => by cases h⟩
theorem jDB {a b : Bool} (h1 : a = true) (h2 : b = true) : (a && b) = true := by rw [h1, h2]; rfl
set_option maxHeartbeats 40000000 in
theorem jEq : Rows.FnExactMatchOfSaid :=
 OpenClaim.holds_of_wide 4 Tryz.f4 rfl rfl rfl rfl rfl rfl rfl ⟨rfl, rfl, rfl, rfl, rfl⟩ rfl rfl rfl rfl rfl (by kernel_rfl) Tryz.func4 (by unfold joinedFacts; repeat' (with_reducible refine jDB ?_ ?_); all_goals (as_aux_lemma => kernel_rfl))
  (of_decide_eq_true (by kernel_rfl)) (by unfold Func.isWrapper; first | (rw [zf (by decide +kernel)]; kernel_rfl) | (rw [zu (by decide +kernel)]; exact ⟨rfl, rfl⟩))
  (fun os started H enc _ => jEm os started H enc)
theorem fnExactMatchOf_card : Rows.FnExactMatchOfCardSaid :=
 Claim7.holds_tied_plain_at .later [] Rows.fnExactMatchOfCard.laidKinds true Rows.fnExactMatchOfCard.stood.harness Rows.fnExactMatchOfCard.stood.looks
  jEq (fun _ h => by cases h) (by kernel_rfl) (fun _ h => by cases h) fnExactMatchOf_row_tie rfl ⟨rfl, rfl⟩ (by kernel_rfl) rfl
  (fun f fn hf hfn => by
   obtain rfl : f = 4 := Option.some.inj ((show Tryz.prog.funcNamed "loop.example/fossick/laws.FnExactMatchOf" = some 4 by kernel_rfl).symm.trans hf) |>.symm
   obtain rfl : fn = Tryz.f4 := (Option.some.inj (Tryz.func4.symm.trans hfn)).symm
   exact ⟨by kernel_rfl, fun j t ht => by
    rw [Tryz.params4] at ht
    have hm : t ∈ [25, 29, 32] := by simpa using Array.mem_of_getElem? ht
    have hall : ([25, 29, 32].all fun u => !Tryz.prog.wantsStandIn u) = true := by kernel_rfl
    exact (show Tryz.prog.wantsStandIn t = false by simpa using zax.1 hall t hm)⟩)
  (by kernel_rfl)
#print axioms fnExactMatchOf_card
end Go.Proofs.YtobfngpkemkojaaGreatDoor
