/- FnAllRoads: the law returns true for every argument, and every argument reads behind the call as it read before. -/
import Derived.Test.YtnkagklajgimlaaGreatDoorLD
import Derived.Test.YtnkagklajgimlaaGreatDoorSK1
import Derived.ProofKit
import Derived.OpenShut
import Derived.ShutString
import Derived.ChangeOld
import Derived.Below
set_option linter.unusedSimpArgs false
set_option linter.unusedVariables false
namespace Go.Proofs.YtnkagklajgimlaaGreatDoor
open Go.WideMaps Go.WideElems
open Go.ChangeShapes Go.WideShapes Go.ChangeAt Go.RowKit
open Go.ChangeMaps (open_string shut_string)
set_option maxRecDepth 100000 in
set_option maxHeartbeats 1000000 in
theorem acV (os : Os) (started : os.Started) (H : Type) (enc : TypeId × Value -> H) :
  ReturnsInHanded {} Tryz.checked os 4 .any (fun w args => (Rows.fnAllRoadsSpec.pre enc Tryz.prog Tryz.f4 [] false w args /\ laidMetH Tryz.prog sV w) /\ sizedMet enc Tryz.prog Tryz.f4 (OpenSpec.ofChange Rows.fnAllRoadsSpec) false w args) (Rows.fnAllRoadsSpec.post enc Tryz.prog Tryz.f4 false true false false) := by
 refine ahL (C := Tryz.checked) (X := fun w _ => laidMetH Tryz.prog sV w) (fun _ _ _ mB h => h.of_heap mB) ao9 started (by kernel_rfl) Tryz.func4
  (ChangeSpec.witness_shaped (enc := enc) (C := Tryz.checked) (os := os) (X := fun w _ => laidMetH Tryz.prog sV w) false (KZ os) #[.slice none 0 0, .slice none 0 0] 8 (World.layVars_os _ _ _) (World.shaped_of_ZipB (by kernel_rfl) (by kernel_rfl)) (by kernel_rfl) (by kernel_rfl) (by kernel_rfl) (ak8 os _)) ?_
 intro W base args ds gs before b Nb _ _ jA P _
 have c : ∀ (j : Nat) t v, Tryz.f4.params[j]? = some t -> args[j]? = some v -> Value.okWide Tryz.prog W .any base t v := b
 have Q := Nb
 obtain ⟨p, q, i, nk, rfl, Ns, Ha⟩ := Nb
 have AF : DataW.TrodAll enc Tryz.prog W 0 (fun _ => true) true Tryz.f4.params.toList args.toList ds p := i
 rw [Tryz.params4] at AF c
 obtain ⟨v0, atM, d0, asZ, oV, apD, S, rfl, rfl, hv, Kn⟩ := trodAll_cons AF
 obtain ⟨v1, atN, d1, as0, lk, l4, rfl, rfl, rfl, aG, o1⟩ := trodAll_cons Kn
 obtain ⟨rfl, rfl, rfl⟩ := trodAll_nil o1
 obtain rfl : args = #[v0, v1] := by cases args; simp_all
 obtain ⟨ata, UD, T, Mw, dg, S0, atb, UE, U, Mx, Xv, S1, atc, wc, V, My, Xw, pi, rfl, d, k, Y, l, f, o, Z, s, g, u, aaH, z, rfl⟩ := aha nk
 have aoh : ∀ x ∈ S0, x.block < W.heap.size := DataW.trod_lt Mw _ _ _ l
 have aoi : ∀ x ∈ S1, x.block < W.heap.size := DataW.trod_lt Mx _ _ _ s
 have aoj : ∀ x ∈ pi, x.block < W.heap.size := DataW.trod_lt My _ _ _ z
 have ZO : DataW.Trod enc Tryz.prog W 0 (fun _ => true) true UD (.agg T) dg S0 := ⟨Mw, l⟩
 have ZP : DataW.Trod enc Tryz.prog W 0 (fun _ => true) true UE (.agg U) Xv S1 := ⟨Mx, s⟩
 have xo : DataW.Trod enc Tryz.prog W 0 (fun _ => true) true wc (.agg V) Xw pi := ⟨My, z⟩
 obtain rfl := Option.some.inj (Uw.symm.trans (show (Tryz.prog.globals[0]?).map (·.type) = some UD from by obtain rfl := Option.some.inj (Gs.symm.trans d); exact k))
 obtain rfl := Option.some.inj (Qv.symm.trans (show (Tryz.prog.globals[6]?).map (·.type) = some UE from by obtain rfl := Option.some.inj (Iv.symm.trans f); exact o))
 obtain rfl := Option.some.inj (Ux.symm.trans (show (Tryz.prog.globals[1]?).map (·.type) = some wc from by obtain rfl := Option.some.inj (Gt.symm.trans g); exact u))
 have RS := hv
 have aob : ∀ x ∈ oV, x.block < W.heap.size := by obtain ⟨m, hm⟩ := RS; exact DataW.trod_lt m _ _ _ hm
 have cW := aG
 have aoc : ∀ x ∈ lk, x.block < W.heap.size := by obtain ⟨m, hm⟩ := cW; exact DataW.trod_lt m _ _ _ hm
 obtain ⟨as8, Zr⟩ := hv
 obtain ⟨kL, c0⟩ := Px (r := (.int .u8)) (by decide) Tryz.underlying22 (by kernel_rfl) (fun n cs y hy _ => Qj Tryz.underlying5 hy) Zr
 obtain ⟨A, B, F, rfl⟩ := okWide_slice Tryz.underlying22 (c 0 22 v0 rfl rfl)
 have aoK := c0.1
 obtain ⟨as9, Zs⟩ := aG
 obtain ⟨qf, qE⟩ := Px (r := (.int .u8)) (by decide) Tryz.underlying22 (by kernel_rfl) (fun n cs y hy _ => Qj Tryz.underlying5 hy) Zs
 obtain ⟨G, I, J, rfl⟩ := okWide_slice Tryz.underlying22 (c 1 22 v1 rfl rfl)
 have pV := qE.1
 clear i b
 refine (alb (acX (1048700)) (kL, qf) (Yj kL qf aoK pV) (L := [.af (.ar (.int .u8)) kL, .af (.ar (.int .u8)) qf]) rfl W (ajV jA P) [.slice A B F, .slice G I J] ⟨ml.v3 c0, ml.v3 qE, True.intro⟩).mono fun e asu ⟨he, a⟩ => ?_
 subst he
 obtain ⟨as4, K⟩ := Below.trod yv (by kernel_rfl) (of_decide_eq_true (by kernel_rfl)) ZO a aoh
 obtain ⟨as5, M⟩ := Below.trod yv (by kernel_rfl) (of_decide_eq_true (by kernel_rfl)) ZP a aoi
 obtain ⟨as6, O⟩ := Below.trod yv (by kernel_rfl) (of_decide_eq_true (by kernel_rfl)) xo a aoj
 exact ⟨_, rfl, _, _, _, [], _, _, Q, trodAll_mk1 (shut_bool Tryz.underlying4 _), (trodAll_cons_mk (Below.trod yv (by kernel_rfl) (of_decide_eq_true (by kernel_rfl)) RS a aob) (trodAll_cons_mk (Below.trod yv (by kernel_rfl) (of_decide_eq_true (by kernel_rfl)) cW a aoc) trodAll_mk0)), ahs d k (IE d Y a) K f o (IE f Z a) M g u (IE g aaH a) O, a.frame _, fun h => by cases h⟩
theorem aez {a b : Bool} (c : a = true) (d : b = true) : (a && b) = true := by rw [c, d]; rfl
set_option maxHeartbeats 40000000 in
theorem ac0 : Rows.FnAllRoadsSaid :=
 OpenClaim.holds_of_wide 4 Tryz.f4 rfl rfl rfl rfl rfl rfl rfl ⟨rfl, rfl, rfl, rfl, rfl⟩ rfl rfl rfl rfl rfl (by kernel_rfl) Tryz.func4 (by unfold joinedFacts; (iterate 60 (first | (with_reducible refine aez ?_ ?_) | skip)); all_goals (as_aux_lemma => kernel_rfl))
  (of_decide_eq_true (by kernel_rfl)) (by unfold Func.isWrapper; first | (rw [ai (by decide +kernel)]; kernel_rfl) | (rw [aC (by decide +kernel)]; exact ⟨rfl, rfl⟩))
  (fun os started H enc _ => acV os started H enc)
end Go.Proofs.YtnkagklajgimlaaGreatDoor
