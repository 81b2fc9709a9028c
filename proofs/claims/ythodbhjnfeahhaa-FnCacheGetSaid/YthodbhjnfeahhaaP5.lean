/- Plain laws: the specification's checks of hits and caches. -/
import Derived.Test.YthodbhjnfeahhaaP4
set_option linter.unusedVariables false
set_option linter.unusedSimpArgs false
namespace Go.Proofs.Ythodbhjnfeahhaa
open Go.RowKit
theorem docIn_cons {xs : List DHit2} {n k : Nat} (d : Int) (h : k < n) (hn : n ≤ xs.length) : docIn d ((xs.take n).drop k) = (decide ((xs[k]'(by omega)).1 = d) || docIn d ((xs.take n).drop (k + 1))) := by
  have hk : k < (xs.take n).length := by simp; omega
  rw [List.drop_eq_getElem_cons hk]
  simp [docIn, List.any_cons]
theorem l13inner (N : Nat) (go : List DHit2 × Int → Option Bool) (xs : List DHit2) (n : Nat) (hn : n < xs.length) (t u : Bool) (h : n < N) (hl : (xs.length : Int) ≤ 9223372036854775806) :
    (iter (fun (go2 : ((List (Int × Int)) × Int × Int × Bool × Bool) → Option Bool) (g : (List (Int × Int)) × Int × Int × Bool × Bool) =>
      match g with
      | (list3, i2, k, t24, t41) =>
      (bif (decide (k < i2)) then
        (Option.bind (idx list3 k) fun (e5 : Int × Int) =>
          (Option.bind (idx list3 i2) fun (e6 : Int × Int) =>
            (bif (decide (e5.1 = e6.1)) then
              (some false)
              else
              (if fits (k + 1) then (go2 (list3, i2, (k + 1), t24, t41)) else none))))
        else
        (if fits (i2 + 1) then (go (list3, (i2 + 1))) else none))) N (xs, (n : Int), 0, t, u)) = bif docIn xs[n].1 (xs.take n) then some false else go (xs, (n : Int) + 1) := by
  refine (iter_scan _ n (fun k => (xs, (n : Int), (k : Int), t, u)) (fun k => bif docIn xs[n].1 ((xs.take n).drop k) then some false else go (xs, (n : Int) + 1)) (fun go2 => ?_) (fun go2 k hk hgo => ?_) N 0 (Nat.zero_le _) (by omega)).trans (by simp)
  · have e1 : (xs.take n).drop n = [] := by simp
    dsimp only
    rw [decide_eq_false (Int.lt_irrefl _), cond_false, if_pos (fits_nat (n := n) (by omega)), e1]
    rfl
  · have hk' : (k : Int) < (n : Int) := by omega
    have hkl : k < xs.length := by omega
    dsimp only
    rw [decide_eq_true hk', cond_true, idx_at hkl, Option.bind_some, idx_at hn, Option.bind_some, docIn_cons _ hk (by omega)]
    by_cases hd : xs[k].1 = xs[n].1
    · rw [decide_eq_true hd, cond_true, Bool.true_or, cond_true]
    · rw [decide_eq_false hd, cond_false, if_pos (fits_nat (n := k) (by omega)), Bool.false_or]
      simp only [cast_succ'] at hgo
      exact hgo
theorem l13Ok_spec (N : Nat) (xs : List DHit2) (h : xs.length < N) (hl : (xs.length : Int) ≤ 9223372036854775806) : s_l13Ok_m N xs = some (okFrom xs xs 0) := by
  unfold s_l13Ok_m
  refine (iter_scan _ xs.length (fun n => (xs, (n : Int))) (fun n => some (okFrom xs (xs.drop n) n)) (fun go => ?_) (fun go n hn hgo => ?_) N 0 (Nat.zero_le _) (by omega)).trans (by simp)
  · simp [okFrom]
  · have hn' : (n : Int) < (xs.length : Int) := by omega
    simp only [cast_succ'] at hgo
    have fin : (bif docIn xs[n].1 (xs.take n) then some false else go (xs, (n : Int) + 1)) = some (!docIn xs[n].1 (xs.take n) && okFrom xs (xs.drop (n + 1)) (n + 1)) := by
      rw [hgo]
      cases docIn xs[n].1 (xs.take n) <;> rfl
    dsimp only
    rw [decide_eq_true hn', cond_true, idx_at hn, Option.bind_some, l1In_spec, Option.bind_some, Option.bind_some, List.drop_eq_getElem_cons hn, okFrom, okAt]
    by_cases h1 : 1 ≤ xs[n].1 ∧ xs[n].1 ≤ 9999
    · rw [decide_eq_true h1, Bool.not_true, cond_false, Bool.true_and]
      by_cases h2 : xs[n].2 < 1
      · rw [decide_eq_true h2, cond_true]; rfl
      · rw [decide_eq_false h2, cond_false]
        by_cases h4 : n = 0
        · subst h4
          rw [show (decide ((0 : Int) < ((0 : Nat) : Int))) = false from rfl, cond_false]
          refine (l13inner N go xs 0 hn _ _ (by omega) hl).trans (fin.trans ?_)
          simp
        · have hp : (0 : Int) < (n : Int) := by omega
          have e1 : (n : Int) - 1 = ((n - 1 : Nat) : Int) := by omega
          have hlt : n - 1 < xs.length := by omega
          have hfit : fits (((n - 1 : Nat) : Int)) := by unfold fits; omega
          rw [decide_eq_true hp, cond_true, e1, if_pos hfit, idx_at hlt, Option.bind_some, Option.bind_some, less_spec, Option.bind_some, decide_eq_false h4, List.getElem?_eq_getElem hlt]
          cases hah : aheadH xs[n - 1] xs[n] with
          | true =>
            rw [Bool.not_true, cond_false]
            refine (l13inner N go xs n hn _ _ (by omega) hl).trans (fin.trans ?_)
            simp [hah]
          | false =>
            rw [Bool.not_false, cond_true]
            simp [hah]
    · rw [decide_eq_false h1]; rfl
/-- Both checks of hits are one. -/
theorem hitsOk_same (M : Nat) (xs : List DHit2) (h : xs.length < M + 3) (hl : (xs.length : Int) ≤ 9223372036854775806) : i_HitsOk_m (M + 3) xs = s_l13Ok_m (M + 3) xs := by
  rw [hitsOk_spec M xs h hl, l13Ok_spec (M + 3) xs h hl]
end Go.Proofs.Ythodbhjnfeahhaa
