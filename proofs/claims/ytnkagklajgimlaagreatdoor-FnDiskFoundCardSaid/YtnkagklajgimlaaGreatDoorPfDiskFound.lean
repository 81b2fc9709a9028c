/- FnDiskFound: the law returns true for every argument, and every argument reads behind the call as it read before. -/
import Derived.Test.YtnkagklajgimlaaGreatDoorLD
import Derived.Test.YtnkagklajgimlaaGreatDoorSJ1
import Derived.ProofKit
import Derived.OpenShut
import Derived.ShutString
import Derived.ChangeOld
import Derived.Below
set_option linter.unusedSimpArgs false
set_option linter.unusedVariables false
namespace Go.Proofs.YtnkagklajgimlaaGreatDoor
open Go.WideMaps Go.WideElems
open Go.ChangeShapes Go.WideShapes Go.ChangeAt Go.RowKit
open Go.ChangeMaps (open_string shut_string)
set_option maxRecDepth 100000 in
set_option maxHeartbeats 1000000 in
theorem aaC (os : Os) (started : os.Started) (H : Type) (enc : TypeId × Value -> H) :
  ReturnsInHanded {} Tryz.checked os 3 .any (fun w args => (Rows.fnDiskFoundSpec.pre enc Tryz.prog Tryz.f3 [] false w args /\ laidMetH Tryz.prog rZ w) /\ sizedMet enc Tryz.prog Tryz.f3 (OpenSpec.ofChange Rows.fnDiskFoundSpec) false w args) (Rows.fnDiskFoundSpec.post enc Tryz.prog Tryz.f3 false true false false) := by
 refine aeg (C := Tryz.checked) (X := fun w _ => laidMetH Tryz.prog rZ w) (fun _ _ _ lY h => h.of_heap lY) ak6 started (by kernel_rfl) Tryz.func3
  (ChangeSpec.witness_shaped (enc := enc) (C := Tryz.checked) (os := os) (X := fun w _ => laidMetH Tryz.prog rZ w) false (Js os) #[.slice none 0 0, .slice none 0 0] 8 (World.layVars_os _ _ _) (World.shaped_of_ZipB (by kernel_rfl) (by kernel_rfl)) (by kernel_rfl) (by kernel_rfl) (by kernel_rfl) (ahE os _)) ?_
 intro W base args ds gs before b Lv _ _ jK J _
 have c : ∀ (j : Nat) t v, Tryz.f3.params[j]? = some t -> args[j]? = some v -> Value.okWide Tryz.prog W .any base t v := b
 have K := Lv
 obtain ⟨p, q, g, mE, rfl, LK, FA⟩ := Lv
 have zn : DataW.TrodAll enc Tryz.prog W 0 (fun _ => true) true Tryz.f3.params.toList args.toList ds p := g
 rw [Tryz.params3] at zn c
 obtain ⟨v0, ao2, d0, aoh, n8, als, M, rfl, rfl, hc, IF⟩ := trodAll_cons zn
 obtain ⟨v1, ao3, d1, aoi, kO, mX, rfl, rfl, rfl, aD, od⟩ := trodAll_cons IF
 obtain ⟨rfl, rfl, rfl⟩ := trodAll_nil od
 obtain rfl : args = #[v0, v1] := by cases args; simp_all
 obtain ⟨aor, Sj, O, KX, dg, QS, aos, Sk, P, KY, U0, QT, rfl, d, i, Q, k, f, l, S, o, rfl⟩ := trodVars_two mE
 have T : ∀ x ∈ QS, x.block < W.heap.size := DataW.trod_lt KX _ _ _ k
 have U : ∀ x ∈ QT, x.block < W.heap.size := DataW.trod_lt KY _ _ _ o
 have V : DataW.Trod enc Tryz.prog W 0 (fun _ => true) true Sj (.agg O) dg QS := ⟨KX, k⟩
 have Y : DataW.Trod enc Tryz.prog W 0 (fun _ => true) true Sk (.agg P) U0 QT := ⟨KY, o⟩
 obtain rfl := Option.some.inj (Sd.symm.trans (show (Tryz.prog.globals[0]?).map (·.type) = some Sj from by obtain rfl := Option.some.inj (ES.symm.trans d); exact i))
 obtain rfl := Option.some.inj (Ou.symm.trans (show (Tryz.prog.globals[6]?).map (·.type) = some Sk from by obtain rfl := Option.some.inj (GQ.symm.trans f); exact l))
 have PN := hc
 have Z : ∀ x ∈ n8, x.block < W.heap.size := by obtain ⟨m, hm⟩ := PN; exact DataW.trod_lt m _ _ _ hm
 have cP := aD
 have akm : ∀ x ∈ kO, x.block < W.heap.size := by obtain ⟨m, hm⟩ := cP; exact DataW.trod_lt m _ _ _ hm
 obtain ⟨aop, WX⟩ := hc
 obtain ⟨kq, c0⟩ := Nz (r := (.int .u8)) (by decide) Tryz.underlying22 (by kernel_rfl) (fun n cs y hy _ => Og Tryz.underlying5 hy) WX
 obtain ⟨s, u, z, rfl⟩ := okWide_slice Tryz.underlying22 (c 0 22 v0 rfl rfl)
 have akR := c0.1
 obtain ⟨aoq, WY⟩ := aD
 obtain ⟨sM, pV⟩ := Nz (r := (.int .u8)) (by decide) Tryz.underlying22 (by kernel_rfl) (fun n cs y hy _ => Og Tryz.underlying5 hy) WY
 obtain ⟨A, B, F, rfl⟩ := okWide_slice Tryz.underlying22 (c 1 22 v1 rfl rfl)
 have pa := pV.1
 clear g b
 refine (ahH (aaD (1048700)) (kq, sM) (VN kq sM akR pa) (L := [.ag (.av (.int .u8)) kq, .ag (.av (.int .u8)) sM]) rfl W (agt jK J) [.slice s u z, .slice A B F] ⟨lN.v3 c0, lN.v3 pV, True.intro⟩).mono fun e anQ ⟨he, a⟩ => ?_
 subst he
 obtain ⟨aom, G⟩ := Below.trod BS (by kernel_rfl) (of_decide_eq_true (by kernel_rfl)) V a T
 obtain ⟨aon, I⟩ := Below.trod BS (by kernel_rfl) (of_decide_eq_true (by kernel_rfl)) Y a U
 exact ⟨_, rfl, _, _, _, [], _, _, K, trodAll_mk1 (shut_bool Tryz.underlying4 _), (trodAll_cons_mk (Below.trod BS (by kernel_rfl) (of_decide_eq_true (by kernel_rfl)) PN a Z) (trodAll_cons_mk (Below.trod BS (by kernel_rfl) (of_decide_eq_true (by kernel_rfl)) cP a akm) trodAll_mk0)), abk d i (Pa d Q a) G f l (Pa f S a) I, a.frame _, fun h => by cases h⟩
theorem abD {a b : Bool} (c : a = true) (d : b = true) : (a && b) = true := by rw [c, d]; rfl
set_option maxHeartbeats 40000000 in
theorem aau : Rows.FnDiskFoundSaid :=
 OpenClaim.holds_of_wide 3 Tryz.f3 rfl rfl rfl rfl rfl rfl rfl ⟨rfl, rfl, rfl, rfl, rfl⟩ rfl rfl rfl rfl rfl (by kernel_rfl) Tryz.func3 (by unfold joinedFacts; (iterate 60 (first | (with_reducible refine abD ?_ ?_) | skip)); all_goals (as_aux_lemma => kernel_rfl))
  (of_decide_eq_true (by kernel_rfl)) (by unfold Func.isWrapper; first | (rw [ai (by decide +kernel)]; kernel_rfl) | (rw [aA (by decide +kernel)]; exact ⟨rfl, rfl⟩))
  (fun os started H enc _ => aaC os started H enc)
end Go.Proofs.YtnkagklajgimlaaGreatDoor
