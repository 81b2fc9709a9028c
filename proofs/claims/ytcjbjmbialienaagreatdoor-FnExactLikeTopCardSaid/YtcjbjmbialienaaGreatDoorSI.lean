/- The models of slices.SortFunc of this program are the general ones. -/
import Derived.Test.YtcjbjmbialienaaGreatDoorQS
import Derived.Test.YtcjbjmbialienaaGreatDoorG1
set_option linter.unusedVariables false
set_option linter.unusedSimpArgs false
namespace Go.Proofs.YtcjbjmbialienaaGreatDoor
open Go.RowKit
def jX (N : Nat) : (Unit) → ((List UInt8) × (List UInt8) × (List (Int × (List Int)))) → ((List UInt8) × (List UInt8) × (List (Int × (List Int)))) → Option Int := (fun (cmp : Unit) (e e2 : (List UInt8) × (List UInt8) × (List (Int × (List Int)))) => je N e.1 e.2.1 e.2.2 e2.1 e2.2.1 e2.2.2)
theorem jei (N : Nat) : ∀ (D : Nat) (d : List ((List UInt8) × (List UInt8) × (List (Int × (List Int))))) (a b l : Int) (ks : Unit), jK N D d a b l ks = pdqG (jX N) (fun d a b ks => jaC N d a b ks) (fun d a b p ks => jbG N d a b p ks) N D d a b l ks
 | 0, _, _, _, _, _ => rfl
 | D + 1, d, a, b, l, ks => by
  have ih : jK N D = pdqG (jX N) (fun d a b ks => jaC N d a b ks) (fun d a b p ks => jbG N d a b p ks) N D := by funext d a b l ks; exact jei N D d a b l ks
  unfold jK pdqG
  rw [ih]
  rfl
theorem jsN (lt : ((List UInt8) × (List UInt8) × (List (Int × (List Int)))) → ((List UInt8) × (List UInt8) × (List (Int × (List Int)))) → Bool) (ho : Ordr lt) (N : Nat) (hN : N ≤ 16777216) (h5 : 5 < N) (d : List ((List UInt8) × (List UInt8) × (List (Int × (List Int))))) (ks : Unit) (hC : Comp (jX N) ks lt d) (hl : d.length < N) (hH : HeapOk (jX N) ks lt N (fun d a b ks => jaC N d a b ks) ∨ d.length ≤ 16) :
  Def (jaS N d ks) fun r => r.Perm d ∧ r.Pairwise fun x y => lt x y = true := by
 unfold jaS
 by_cases h0 : d.length = 0
 ·obtain rfl : d = [] := List.length_eq_zero_iff.1 h0
  have e : IntKind.u64.wrap (([] : List ((List UInt8) × (List UInt8) × (List (Int × (List Int))))).length : Int) = 0 := by show IntKind.u64.wrap 0 = 0; decide
  refine Def.bind (P := fun r => r = 0) ?_ fun r hr => ?_
  ·rw [e]; exact ⟨0, rfl, rfl⟩
  ·subst hr
   rw [jei]
   refine Def.bind (pdq_def ho N hN h5 _ _ N [] 0 0 0 hC (fun h => by omega) (zae _) (zae _) hl (by omega) (by omega) (.inr (by omega))) fun r ⟨h1, _⟩ => ?_
   have := List.perm_nil.1 h1.perm
   subst this
   exact Def.ret ⟨List.Perm.refl _, za4⟩
 refine Def.bind (len_bits N d.length (by omega) (by omega)) fun r ⟨n, hn, b1, b2, b3⟩ => ?_
 subst hn
 rw [jei]
 have hb : HeapOk (jX N) ks lt N (fun d a b ks => jaC N d a b ks) ∨ d.length - 0 ≤ 11 + n := by
  refine hH.imp_right fun h => ?_
  by_cases e : d.length ≤ 12
  ·have : 1 ≤ n := by
    by_cases e4 : 1 ≤ n
    ·exact e4
    ·exfalso
     have : 2 ^ n ≤ 2 ^ 0 := zaS (by omega) (by omega)
     omega
   omega
  ·have : 4 ≤ n := by
    by_cases e4 : 4 ≤ n
    ·exact e4
    ·exfalso
     have : 2 ^ n ≤ 2 ^ 3 := zaS (by omega) (by omega)
     omega
   by_cases e5 : d.length = 16
   ·have : 5 ≤ n := by
     by_cases e4 : 5 ≤ n
     ·exact e4
     ·exfalso
      have : 2 ^ n ≤ 2 ^ 4 := zaS (by omega) (by omega)
      omega
    omega
   ·omega
 refine Def.bind (pdq_def ho N hN h5 _ _ N d 0 d.length n hC (fun h => by omega) (zaf _) (zae _) hl (by omega) (by omega) hb) fun r ⟨h1, h2⟩ => Def.ret ⟨h1.perm, ?_⟩
 have hrl := h1.len
 refine za2.2 fun i j hi hj hij => ?_
 have := h2 i j (zaf _) hij (by omega)
 rw [zc hi, zc hj] at this
 exact this
theorem jiZ (lt : ((List UInt8) × (List UInt8) × (List (Int × (List Int)))) → ((List UInt8) × (List UInt8) × (List (Int × (List Int)))) → Bool) (ho : Ordr lt) (N : Nat) (hN : N ≤ 16777216) (h5 : 5 < N) (d : List ((List UInt8) × (List UInt8) × (List (Int × (List Int))))) (ks : Unit) (hC : Comp (jX N) ks lt d) (hl : d.length < N) :
  Def (jaS N d ks) fun r => r.Perm d ∧ r.Pairwise fun x y => lt x y = true :=
 jsN lt ho N hN h5 d ks hC hl (.inl (heap_ok (c := (jX N)) ho N (by omega) h5))
def cmp693 (N : Nat) : ((Option ((List (List UInt8)) × (List ((List (List UInt8)) × (List UInt8))) × (List (Int × (List ((List UInt8) × (List UInt8))) × (List ((List UInt8) × Int)))) × (List ((List UInt8) × (List UInt8) × (List (Int × (List Int))))))) × (List UInt8) × Int) → (List UInt8) → (List UInt8) → Option Int := (fun (cmp : (Option ((List (List UInt8)) × (List ((List (List UInt8)) × (List UInt8))) × (List (Int × (List ((List UInt8) × (List UInt8))) × (List ((List UInt8) × Int)))) × (List ((List UInt8) × (List UInt8) × (List (Int × (List Int))))))) × (List UInt8) × Int) (e e2 : List UInt8) => i_LikeTerms_1_m N e e2 cmp.1 cmp.2.1 cmp.2.2)
theorem jdW (N : Nat) : ∀ (D : Nat) (d : List (List UInt8)) (a b l : Int) (ks : (Option ((List (List UInt8)) × (List ((List (List UInt8)) × (List UInt8))) × (List (Int × (List ((List UInt8) × (List UInt8))) × (List ((List UInt8) × Int)))) × (List ((List UInt8) × (List UInt8) × (List (Int × (List Int))))))) × (List UInt8) × Int), jM N D d a b l ks = pdqG (cmp693 N) (fun d a b ks => jaD N d a b ks) (fun d a b p ks => jcP N d a b p ks) N D d a b l ks
 | 0, _, _, _, _, _ => rfl
 | D + 1, d, a, b, l, ks => by
  have ih : jM N D = pdqG (cmp693 N) (fun d a b ks => jaD N d a b ks) (fun d a b p ks => jcP N d a b p ks) N D := by funext d a b l ks; exact jdW N D d a b l ks
  unfold jM pdqG
  rw [ih]
  rfl
theorem jkB (lt : (List UInt8) → (List UInt8) → Bool) (ho : Ordr lt) (N : Nat) (hN : N ≤ 16777216) (h5 : 5 < N) (d : List (List UInt8)) (ks : (Option ((List (List UInt8)) × (List ((List (List UInt8)) × (List UInt8))) × (List (Int × (List ((List UInt8) × (List UInt8))) × (List ((List UInt8) × Int)))) × (List ((List UInt8) × (List UInt8) × (List (Int × (List Int))))))) × (List UInt8) × Int) (hC : Comp (cmp693 N) ks lt d) (hl : d.length < N) (hH : HeapOk (cmp693 N) ks lt N (fun d a b ks => jaD N d a b ks) ∨ d.length ≤ 16) :
  Def (jaO N d ks) fun r => r.Perm d ∧ r.Pairwise fun x y => lt x y = true := by
 unfold jaO
 by_cases h0 : d.length = 0
 ·obtain rfl : d = [] := List.length_eq_zero_iff.1 h0
  have e : IntKind.u64.wrap (([] : List (List UInt8)).length : Int) = 0 := by show IntKind.u64.wrap 0 = 0; decide
  refine Def.bind (P := fun r => r = 0) ?_ fun r hr => ?_
  ·rw [e]; exact ⟨0, rfl, rfl⟩
  ·subst hr
   rw [jdW]
   refine Def.bind (pdq_def ho N hN h5 _ _ N [] 0 0 0 hC (fun h => by omega) (zae _) (zae _) hl (by omega) (by omega) (.inr (by omega))) fun r ⟨h1, _⟩ => ?_
   have := List.perm_nil.1 h1.perm
   subst this
   exact Def.ret ⟨List.Perm.refl _, za4⟩
 refine Def.bind (len_bits N d.length (by omega) (by omega)) fun r ⟨n, hn, b1, b2, b3⟩ => ?_
 subst hn
 rw [jdW]
 have hb : HeapOk (cmp693 N) ks lt N (fun d a b ks => jaD N d a b ks) ∨ d.length - 0 ≤ 11 + n := by
  refine hH.imp_right fun h => ?_
  by_cases e : d.length ≤ 12
  ·have : 1 ≤ n := by
    by_cases e4 : 1 ≤ n
    ·exact e4
    ·exfalso
     have : 2 ^ n ≤ 2 ^ 0 := zaS (by omega) (by omega)
     omega
   omega
  ·have : 4 ≤ n := by
    by_cases e4 : 4 ≤ n
    ·exact e4
    ·exfalso
     have : 2 ^ n ≤ 2 ^ 3 := zaS (by omega) (by omega)
     omega
   by_cases e5 : d.length = 16
   ·have : 5 ≤ n := by
     by_cases e4 : 5 ≤ n
     ·exact e4
     ·exfalso
      have : 2 ^ n ≤ 2 ^ 4 := zaS (by omega) (by omega)
      omega
    omega
   ·omega
 refine Def.bind (pdq_def ho N hN h5 _ _ N d 0 d.length n hC (fun h => by omega) (zaf _) (zae _) hl (by omega) (by omega) hb) fun r ⟨h1, h2⟩ => Def.ret ⟨h1.perm, ?_⟩
 have hrl := h1.len
 refine za2.2 fun i j hi hj hij => ?_
 have := h2 i j (zaf _) hij (by omega)
 rw [zc hi, zc hj] at this
 exact this
theorem sortAny_693 (lt : (List UInt8) → (List UInt8) → Bool) (ho : Ordr lt) (N : Nat) (hN : N ≤ 16777216) (h5 : 5 < N) (d : List (List UInt8)) (ks : (Option ((List (List UInt8)) × (List ((List (List UInt8)) × (List UInt8))) × (List (Int × (List ((List UInt8) × (List UInt8))) × (List ((List UInt8) × Int)))) × (List ((List UInt8) × (List UInt8) × (List (Int × (List Int))))))) × (List UInt8) × Int) (hC : Comp (cmp693 N) ks lt d) (hl : d.length < N) :
  Def (jaO N d ks) fun r => r.Perm d ∧ r.Pairwise fun x y => lt x y = true :=
 jkB lt ho N hN h5 d ks hC hl (.inl (heap_ok (c := (cmp693 N)) ho N (by omega) h5))
def cmp454 (N : Nat) : (Unit) → (Int × Int) → (Int × Int) → Option Int := (fun (cmp : Unit) (e e2 : Int × Int) => i_hitOrder_m N e.1 e.2 e2.1 e2.2)
theorem jvq (N : Nat) : ∀ (D : Nat) (d : List (Int × Int)) (a b l : Int) (ks : Unit), jvh N D d a b l ks = pdqG (cmp454 N) (fun d a b ks => jvj N d a b ks) (fun d a b p ks => jvo N d a b p ks) N D d a b l ks
 | 0, _, _, _, _, _ => rfl
 | D + 1, d, a, b, l, ks => by
  have ih : jvh N D = pdqG (cmp454 N) (fun d a b ks => jvj N d a b ks) (fun d a b p ks => jvo N d a b p ks) N D := by funext d a b l ks; exact jvq N D d a b l ks
  unfold jvh pdqG
  rw [ih]
  rfl
theorem jw9 (lt : (Int × Int) → (Int × Int) → Bool) (ho : Ordr lt) (N : Nat) (hN : N ≤ 16777216) (h5 : 5 < N) (d : List (Int × Int)) (ks : Unit) (hC : Comp (cmp454 N) ks lt d) (hl : d.length < N) (hH : HeapOk (cmp454 N) ks lt N (fun d a b ks => jvj N d a b ks) ∨ d.length ≤ 16) :
  Def (jvk N d ks) fun r => r.Perm d ∧ r.Pairwise fun x y => lt x y = true := by
 unfold jvk
 by_cases h0 : d.length = 0
 ·obtain rfl : d = [] := List.length_eq_zero_iff.1 h0
  have e : IntKind.u64.wrap (([] : List (Int × Int)).length : Int) = 0 := by show IntKind.u64.wrap 0 = 0; decide
  refine Def.bind (P := fun r => r = 0) ?_ fun r hr => ?_
  ·rw [e]; exact ⟨0, rfl, rfl⟩
  ·subst hr
   rw [jvq]
   refine Def.bind (pdq_def ho N hN h5 _ _ N [] 0 0 0 hC (fun h => by omega) (zae _) (zae _) hl (by omega) (by omega) (.inr (by omega))) fun r ⟨h1, _⟩ => ?_
   have := List.perm_nil.1 h1.perm
   subst this
   exact Def.ret ⟨List.Perm.refl _, za4⟩
 refine Def.bind (len_bits N d.length (by omega) (by omega)) fun r ⟨n, hn, b1, b2, b3⟩ => ?_
 subst hn
 rw [jvq]
 have hb : HeapOk (cmp454 N) ks lt N (fun d a b ks => jvj N d a b ks) ∨ d.length - 0 ≤ 11 + n := by
  refine hH.imp_right fun h => ?_
  by_cases e : d.length ≤ 12
  ·have : 1 ≤ n := by
    by_cases e4 : 1 ≤ n
    ·exact e4
    ·exfalso
     have : 2 ^ n ≤ 2 ^ 0 := zaS (by omega) (by omega)
     omega
   omega
  ·have : 4 ≤ n := by
    by_cases e4 : 4 ≤ n
    ·exact e4
    ·exfalso
     have : 2 ^ n ≤ 2 ^ 3 := zaS (by omega) (by omega)
     omega
   by_cases e5 : d.length = 16
   ·have : 5 ≤ n := by
     by_cases e4 : 5 ≤ n
     ·exact e4
     ·exfalso
      have : 2 ^ n ≤ 2 ^ 4 := zaS (by omega) (by omega)
      omega
    omega
   ·omega
 refine Def.bind (pdq_def ho N hN h5 _ _ N d 0 d.length n hC (fun h => by omega) (zaf _) (zae _) hl (by omega) (by omega) hb) fun r ⟨h1, h2⟩ => Def.ret ⟨h1.perm, ?_⟩
 have hrl := h1.len
 refine za2.2 fun i j hi hj hij => ?_
 have := h2 i j (zaf _) hij (by omega)
 rw [zc hi, zc hj] at this
 exact this
theorem sortAny_454 (lt : (Int × Int) → (Int × Int) → Bool) (ho : Ordr lt) (N : Nat) (hN : N ≤ 16777216) (h5 : 5 < N) (d : List (Int × Int)) (ks : Unit) (hC : Comp (cmp454 N) ks lt d) (hl : d.length < N) :
  Def (jvk N d ks) fun r => r.Perm d ∧ r.Pairwise fun x y => lt x y = true :=
 jw9 lt ho N hN h5 d ks hC hl (.inl (heap_ok (c := (cmp454 N)) ho N (by omega) h5))
end Go.Proofs.YtcjbjmbialienaaGreatDoor
