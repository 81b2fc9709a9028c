/- Plain laws: loops, and what the cache's functions compute. -/
import Derived.Test.YthodbhjnfeahhaaP2
set_option linter.unusedVariables false
set_option linter.unusedSimpArgs false
namespace Go.Proofs.Ythodbhjnfeahhaa
open Go.RowKit
abbrev DHit2 := Int × Int
abbrev DItem2 := List UInt8 × List (Int × Int)
theorem idx_at {α : Type} {xs : List α} {n : Nat} (h : n < xs.length) : idx xs (n : Int) = some xs[n] := by
  simp only [idx, if_pos (Int.natCast_nonneg n), Int.toNat_natCast, List.getElem?_eq_getElem h]
/-- A loop over a list: what it gives from place n on. -/
theorem iter_scan {δ ρ : Type} (F : (δ → Option ρ) → δ → Option ρ) (len : Nat) (st : Nat → δ) (spec : Nat → Option ρ)
    (hend : ∀ go, F go (st len) = spec len) (hstep : ∀ go n, n < len → go (st (n + 1)) = spec (n + 1) → F go (st n) = spec n) :
    ∀ N n, n ≤ len → len - n < N → iter F N (st n) = spec n
  | 0, n, _, h => by omega
  | N + 1, n, hn, h => by
    show F (iter F N) (st n) = spec n
    by_cases e : n = len
    · rw [e]; exact hend _
    · exact hstep _ n (by omega) (iter_scan F len st spec hend hstep N (n + 1) (by omega) (by omega))
theorem cast_succ' (n : Nat) : ((n + 1 : Nat) : Int) = (n : Int) + 1 := by omega
theorem fits_nat {n : Nat} (h : (n : Int) ≤ 9223372036854775806) : fits ((n : Int) + 1) := by unfold fits; omega
def findFrom (ask : List UInt8) : List DItem2 → Int → Int
  | [], _ => -1
  | x :: xs, i => if x.1 = ask then i else findFrom ask xs (i + 1)
theorem find_spec (N : Nat) (c c2 : Int) (xs : List DItem2) (ask : List UInt8) (h : xs.length < N) (hl : (xs.length : Int) ≤ 9223372036854775806) : i_Cache_find_m N c c2 xs ask = some (findFrom ask xs 0) := by
  unfold i_Cache_find_m
  refine (iter_scan _ xs.length (fun n => (ask, xs, (xs.length : Int), (n : Int))) (fun n => some (findFrom ask (xs.drop n) n)) (fun go => ?_) (fun go n hn hgo => ?_) N 0 (Nat.zero_le _) (by omega)).trans (by simp)
  · simp [findFrom]
  · have hn' : (n : Int) < (xs.length : Int) := by omega
    dsimp only
    rw [decide_eq_true hn', cond_true, idx_at hn, Option.bind_some, List.drop_eq_getElem_cons hn]
    by_cases hx : xs[n].1 = ask
    · rw [decide_eq_true hx, cond_true, findFrom, if_pos hx]
    · rw [decide_eq_false hx, cond_false, if_pos (fits_nat (n := n) (by omega)), findFrom, if_neg hx]
      simp only [cast_succ'] at hgo
      exact hgo
def docIn (d : Int) (xs : List DHit2) : Bool := xs.any fun x => decide (x.1 = d)
def findDoc (d : Int) : List DHit2 → Int → Int
  | [], _ => -1
  | x :: xs, i => if x.1 = d then i else findDoc d xs (i + 1)
theorem findDoc_pos (d : Int) : ∀ (xs : List DHit2) (i : Int), 0 ≤ i → (decide (0 ≤ findDoc d xs i)) = docIn d xs
  | [], i, _ => rfl
  | x :: xs, i, h => by
    simp only [findDoc, docIn, List.any_cons]
    by_cases e : x.1 = d
    · simp [e, h]
    · simp only [e, if_false, decide_false, Bool.false_or]
      exact findDoc_pos d xs (i + 1) (by omega)
theorem hasDoc_spec (N : Nat) (xs : List DHit2) (d : Int) (h : xs.length < N) (hl : (xs.length : Int) ≤ 9223372036854775806) : i_hasDoc_m N xs d = some (docIn d xs) := by
  have h1 : k_slices_IndexFunc_200_m N xs d = some (findDoc d xs 0) := by
    unfold k_slices_IndexFunc_200_m
    refine (iter_scan _ xs.length (fun n => (xs, d, (xs.length : Int), (n : Int))) (fun n => some (findDoc d (xs.drop n) n)) (fun go => ?_) (fun go n hn hgo => ?_) N 0 (Nat.zero_le _) (by omega)).trans (by simp)
    · simp [findDoc]
    · have hn' : (n : Int) < (xs.length : Int) := by omega
      dsimp only
      rw [decide_eq_true hn', cond_true, idx_at hn, Option.bind_some, i_hasDoc_1_m, Option.bind_some, List.drop_eq_getElem_cons hn]
      by_cases hx : xs[n].1 = d
      · rw [decide_eq_true hx, cond_true, findDoc, if_pos hx]
      · rw [decide_eq_false hx, cond_false, if_pos (fits_nat (n := n) (by omega)), findDoc, if_neg hx]
        simp only [cast_succ'] at hgo
        exact hgo
  simp only [i_hasDoc_m, k_slices_ContainsFunc_50_m, h1, Option.bind_some, findDoc_pos d xs 0 (Int.le_refl _)]
theorem cmp_spec (N : Nat) (x y : Int) : k_cmp_Compare_992_m N x y = some (if x < y then -1 else if y < x then 1 else 0) := by
  simp only [k_cmp_Compare_992_m, k_cmp_isNaN_538_m, Option.bind_some, decide_true, Bool.not_true, cond_false]
  by_cases h : x < y
  · simp [h]
  · by_cases h2 : y < x <;> simp [h, h2]
theorem or_spec (M : Nat) (x y : Int) : k_cmp_Or_892_m (M + 3) [x, y] = some (if x = 0 then y else x) := by
  unfold k_cmp_Or_892_m
  by_cases h : x = 0
  · by_cases h2 : y = 0 <;> simp [iter, idx, h, h2, fits]
  · simp [iter, idx, h]
def aheadH (x y : DHit2) : Bool := decide (y.2 < x.2 ∨ x.2 = y.2 ∧ x.1 < y.1)
theorem order_spec (M : Nat) (x y : DHit2) : ∃ r, i_hitOrder_m (M + 3) x.1 x.2 y.1 y.2 = some r ∧ (decide (0 ≤ r)) = !aheadH x y := by
  simp only [i_hitOrder_m, cmp_spec, Option.bind_some, or_spec]
  refine ⟨_, rfl, ?_⟩
  unfold aheadH
  by_cases h1 : y.2 < x.2
  · simp [h1]
  · by_cases h2 : x.2 < y.2
    · have : ¬ (x.2 = y.2) := by omega
      simp [h1, h2, this]
    · have e : x.2 = y.2 := by omega
      by_cases h3 : x.1 < y.1
      · simp [e, h3]
      · by_cases h4 : y.1 < x.1 <;> simp [e, h3, h4]
theorem less_spec (N : Nat) (x y : DHit2) : s_l13Less_m N x.1 x.2 y.1 y.2 = some (aheadH x y) := by
  unfold s_l13Less_m aheadH
  by_cases h1 : y.2 < x.2
  · simp [h1]
  · by_cases h2 : x.2 = y.2 <;> simp [h1, h2]
/-- A hit at its place. -/
def okAt (xs : List DHit2) (n : Nat) (x : DHit2) : Bool := decide (1 ≤ x.1 ∧ x.1 ≤ 9999) && !decide (x.2 < 1) && !docIn x.1 (xs.take n) && (decide (n = 0) || (match xs[n - 1]? with | some y => aheadH y x | none => false))
def okFrom (xs : List DHit2) : List DHit2 → Nat → Bool
  | [], _ => decide ((xs.length : Int) ≤ 16)
  | x :: l, n => okAt xs n x && okFrom xs l (n + 1)
theorem hitsOk_spec (M : Nat) (xs : List DHit2) (h : xs.length < M + 3) (hl : (xs.length : Int) ≤ 9223372036854775806) : i_HitsOk_m (M + 3) xs = some (okFrom xs xs 0) := by
  unfold i_HitsOk_m
  refine (iter_scan _ xs.length (fun n => (xs, xs, (xs.length : Int), (n : Int))) (fun n => some (okFrom xs (xs.drop n) n)) (fun go => ?_) (fun go n hn hgo => ?_) (M + 3) 0 (Nat.zero_le _) (by omega)).trans (by simp)
  · simp [okFrom]
  · have hn' : (n : Int) < (xs.length : Int) := by omega
    dsimp only
    rw [decide_eq_true hn', cond_true, idx_at hn, Option.bind_some, within_spec, Option.bind_some, List.drop_eq_getElem_cons hn, okFrom, okAt]
    by_cases h1 : 1 ≤ xs[n].1 ∧ xs[n].1 ≤ 9999
    · rw [decide_eq_true h1, Bool.not_true, cond_false, Bool.true_and]
      by_cases h2 : xs[n].2 < 1
      · rw [decide_eq_true h2, cond_true]; rfl
      · have hs : i_hasDoc_m (M + 3) (xs.take n) xs[n].1 = some (docIn xs[n].1 (xs.take n)) := hasDoc_spec _ _ _ (by simp; omega) (by simp; omega)
        rw [decide_eq_false h2, cond_false, cut_spec xs n (by omega), Option.bind_some, hs, Option.bind_some]
        cases h3 : docIn xs[n].1 (xs.take n) with
        | true => rfl
        | false =>
          rw [cond_false]
          by_cases h4 : n = 0
          · subst h4
            rw [show (decide ((0 : Int) < ((0 : Nat) : Int))) = false from rfl, cond_false, if_pos (fits_nat (n := 0) (by omega))]
            simp only [Bool.not_false, Bool.true_and, decide_true, Bool.true_or]
            simp only [cast_succ'] at hgo
            exact hgo
          · have hp : (0 : Int) < (n : Int) := by omega
            have e1 : (n : Int) - 1 = ((n - 1 : Nat) : Int) := by omega
            have hlt : n - 1 < xs.length := by omega
            obtain ⟨r, hr, hr2⟩ := order_spec M xs[n - 1] xs[n]
            have hfit : fits (((n - 1 : Nat) : Int)) := by unfold fits; omega
            rw [decide_eq_true hp, cond_true, e1, if_pos hfit, idx_at hlt, Option.bind_some, hr, Option.bind_some, hr2, if_pos (fits_nat (n := n) (by omega)), decide_eq_false h4, List.getElem?_eq_getElem hlt]
            cases hah : aheadH xs[n - 1] xs[n] with
            | true =>
              simp only [cast_succ'] at hgo
              rw [Bool.not_true, cond_false, hgo]
              simp [hah]
            | false =>
              rw [Bool.not_false, cond_true]
              simp [hah]
    · rw [decide_eq_false h1]; rfl
end Go.Proofs.Ythodbhjnfeahhaa
