/- Plain laws: the specification's check of caches. -/
import Derived.Test.YthodbhjnfeahhaaP6
set_option linter.unusedVariables false
set_option linter.unusedSimpArgs false
namespace Go.Proofs.Ythodbhjnfeahhaa
open Go.RowKit
theorem askIn_cons {xs : List DItem2} {n k : Nat} (a : List UInt8) (h : k < n) (hn : n ≤ xs.length) : askIn a ((xs.take n).drop k) = (decide ((xs[k]'(by omega)).1 = a) || askIn a ((xs.take n).drop (k + 1))) := by
  have hk : k < (xs.take n).length := by simp; omega
  rw [List.drop_eq_getElem_cons hk]
  simp [askIn, List.any_cons]
theorem l24inner (N : Nat) (go : Int × Int × Int × List DItem2 → Option Bool) (c g0 : Int) (xs : List DItem2) (n : Nat) (hn : n < xs.length) (t : Bool) (h : n < N) (hl : (xs.length : Int) ≤ 9223372036854775806) :
    (iter (fun (go2 : (Int × Int × Bool × Int × Int × (List ((List UInt8) × (List (Int × Int))))) → Option Bool) (g : Int × Int × Bool × Int × Int × (List ((List UInt8) × (List (Int × Int))))) =>
      match g with
      | (i2, k, t27, c7, c8, c9) =>
      (bif (decide (k < i2)) then
        (Option.bind (idx c9 k) fun (e3 : (List UInt8) × (List (Int × Int))) =>
          (Option.bind (idx c9 i2) fun (e4 : (List UInt8) × (List (Int × Int))) =>
            (bif (decide (e3.1 = e4.1)) then
              (some false)
              else
              (if fits (k + 1) then (go2 (i2, (k + 1), t27, c7, c8, c9)) else none))))
        else
        (if fits (i2 + 1) then (go ((i2 + 1), c7, c8, c9)) else none))) N ((n : Int), 0, t, c, g0, xs)) = bif askIn xs[n].1 (xs.take n) then some false else go ((n : Int) + 1, c, g0, xs) := by
  refine (iter_scan _ n (fun k => ((n : Int), (k : Int), t, c, g0, xs)) (fun k => bif askIn xs[n].1 ((xs.take n).drop k) then some false else go ((n : Int) + 1, c, g0, xs)) (fun go2 => ?_) (fun go2 k hk hgo => ?_) N 0 (Nat.zero_le _) (by omega)).trans (by simp)
  · have e1 : (xs.take n).drop n = [] := by simp
    dsimp only
    rw [decide_eq_false (Int.lt_irrefl _), cond_false, if_pos (fits_nat (n := n) (by omega)), e1]
    rfl
  · have hk' : (k : Int) < (n : Int) := by omega
    have hkl : k < xs.length := by omega
    dsimp only
    rw [decide_eq_true hk', cond_true, idx_at hkl, Option.bind_some, idx_at hn, Option.bind_some, askIn_cons _ hk (by omega)]
    by_cases hd : xs[k].1 = xs[n].1
    · rw [decide_eq_true hd, cond_true, Bool.true_or, cond_true]
    · rw [decide_eq_false hd, cond_false, if_pos (fits_nat (n := k) (by omega)), Bool.false_or]
      simp only [cast_succ'] at hgo
      exact hgo
theorem l24Ok_spec (N : Nat) (c g : Int) (xs : List DItem2) (h : xs.length < N) (hN : (N : Int) ≤ 9223372036854775000) (hf : fewHits N xs) : s_l24Ok_m N c g xs = some (okCache c g xs) := by
  unfold s_l24Ok_m
  refine (iter_scan _ xs.length (fun n => ((n : Int), c, g, xs)) (fun n => some (okItems xs (xs.drop n) n && (decide (1 ≤ c ∧ c ≤ 5) && decide ((xs.length : Int) ≤ c) && decide (0 ≤ g ∧ g ≤ 999999999)))) (fun go => ?_) (fun go n hn hgo => ?_) N 0 (Nat.zero_le _) (by omega)).trans ?_
  · dsimp only
    rw [decide_eq_false (Int.lt_irrefl _), cond_false, l1In_spec, Option.bind_some, List.drop_length, okItems, Bool.true_and]
    cases h1 : decide (1 ≤ c ∧ c ≤ 5) with
    | false => rfl
    | true =>
      rw [cond_true, Bool.true_and]
      cases h2 : decide ((xs.length : Int) ≤ c) with
      | false => rfl
      | true => rw [cond_true, l1In_spec, Option.bind_some, Bool.true_and]
  · have hn' : (n : Int) < (xs.length : Int) := by omega
    have hx := hf xs[n] (List.getElem_mem hn)
    simp only [cast_succ'] at hgo
    dsimp only
    rw [decide_eq_true hn', cond_true, idx_at hn, Option.bind_some, List.drop_eq_getElem_cons hn, okItems, okItem, Option.bind_some, l13Ok_spec N _ hx (by omega), Option.bind_some]
    cases h4 : decide (xs[n].1 = []) with
    | true => rfl
    | false =>
      rw [cond_false]
      cases h5 : okFrom xs[n].2 xs[n].2 0 with
      | false => rfl
      | true =>
        rw [Bool.not_true, cond_false]
        refine (l24inner N go c g xs n hn _ (by omega) (by omega)).trans ?_
        rw [hgo]
        cases askIn xs[n].1 (xs.take n) <;> rfl
  · rw [List.drop_zero]
    unfold okCache
    cases okItems xs xs 0 <;> cases decide (1 ≤ c ∧ c ≤ 5) <;> cases decide (0 ≤ g ∧ g ≤ 999999999) <;> cases decide ((xs.length : Int) ≤ c) <;> rfl
end Go.Proofs.Ythodbhjnfeahhaa
