/- Plain laws: caches that are ok. -/
import Derived.Test.YthodbhjnfeahhaaP5
set_option linter.unusedVariables false
set_option linter.unusedSimpArgs false
namespace Go.Proofs.Ythodbhjnfeahhaa
open Go.RowKit
def askIn (a : List UInt8) (xs : List DItem2) : Bool := xs.any fun x => decide (x.1 = a)
theorem findFrom_ge (a : List UInt8) : ∀ (xs : List DItem2) (i : Int), 0 ≤ i → findFrom a xs i = -1 ∨ i ≤ findFrom a xs i
  | [], i, _ => .inl rfl
  | x :: xs, i, h => by
    simp only [findFrom]
    split
    · exact .inr (Int.le_refl _)
    · rcases findFrom_ge a xs (i + 1) (by omega) with h1 | h1
      · exact .inl h1
      · exact .inr (by omega)
/-- An item is found where it lies, if none ahead asks the same. -/
theorem find_at : ∀ (xs : List DItem2) (i n : Nat) (hn : n < xs.length), (decide (findFrom xs[n].1 xs (i : Int) = ((i + n : Nat) : Int))) = !askIn xs[n].1 (xs.take n)
  | [], _, _, h => absurd h (Nat.not_lt_zero _)
  | x :: xs, i, 0, _ => by simp [findFrom, askIn]
  | x :: xs, i, n + 1, h => by
    have hn : n < xs.length := by simpa using h
    simp only [List.getElem_cons_succ, findFrom, List.take_succ_cons]
    by_cases e : x.1 = xs[n].1
    · have h1 : ¬ ((i : Int) = ((i + (n + 1) : Nat) : Int)) := by omega
      simp only [if_pos e, decide_eq_false h1, askIn, List.any_cons, decide_eq_true e, Bool.true_or, Bool.not_true]
    · have ih := find_at xs (i + 1) n hn
      have e2 : ((i + 1 + n : Nat) : Int) = ((i + (n + 1) : Nat) : Int) := by omega
      rw [e2, cast_succ'] at ih
      simp only [if_neg e, askIn, List.any_cons, decide_eq_false e, Bool.false_or]
      exact ih
def okItem (xs : List DItem2) (n : Nat) (x : DItem2) : Bool := !decide (x.1 = []) && okFrom x.2 x.2 0 && !askIn x.1 (xs.take n)
def okItems (xs : List DItem2) : List DItem2 → Nat → Bool
  | [], _ => true
  | x :: l, n => okItem xs n x && okItems xs l (n + 1)
def okCache (c g : Int) (xs : List DItem2) : Bool := decide (1 ≤ c ∧ c ≤ 5) && decide (0 ≤ g ∧ g ≤ 999999999) && decide ((xs.length : Int) ≤ c) && okItems xs xs 0
theorem cacheOk_spec (M : Nat) (c g : Int) (xs : List DItem2) (h : xs.length < M + 3) (hN : (M : Int) ≤ 9223372036854775000) (hf : fewHits (M + 3) xs) : i_CacheOk_m (M + 3) c g xs = some (okCache c g xs) := by
  unfold i_CacheOk_m okCache
  rw [within_spec, Option.bind_some, within_spec, Option.bind_some]
  cases h1 : decide (1 ≤ c ∧ c ≤ 5) with
  | false => rfl
  | true =>
    cases h2 : decide (0 ≤ g ∧ g ≤ 999999999) with
    | false => rfl
    | true =>
      rw [Bool.not_true, cond_false, cond_false]
      by_cases h3 : c < (xs.length : Int)
      · have h3' : ¬ (xs.length : Int) ≤ c := by omega
        rw [decide_eq_true h3, cond_true, decide_eq_false h3']; rfl
      · have h3' : (xs.length : Int) ≤ c := by omega
        rw [decide_eq_false h3, cond_false, decide_eq_true h3', Bool.true_and, Bool.true_and, Bool.true_and]
        refine (iter_scan _ xs.length (fun n => (xs, (xs.length : Int), (n : Int), c, g, xs)) (fun n => some (okItems xs (xs.drop n) n)) (fun go => ?_) (fun go n hn hgo => ?_) (M + 3) 0 (Nat.zero_le _) (by omega)).trans (by simp)
        · simp [okItems]
        · have hn' : (n : Int) < (xs.length : Int) := by omega
          have hx := hf xs[n] (List.getElem_mem hn)
          simp only [cast_succ'] at hgo
          dsimp only
          rw [decide_eq_true hn', cond_true, idx_at hn, Option.bind_some, List.drop_eq_getElem_cons hn, okItems, okItem, hitsOk_spec M _ hx (by omega), Option.bind_some, find_spec (M + 3) c g xs _ h (by omega), Option.bind_some]
          cases h4 : decide (xs[n].1 = []) with
          | true => rfl
          | false =>
            rw [cond_false]
            cases h5 : okFrom xs[n].2 xs[n].2 0 with
            | false => rfl
            | true =>
              have h6 : decide (findFrom xs[n].1 xs 0 = (n : Int)) = !askIn xs[n].1 (xs.take n) := by
                have h7 := find_at xs 0 n hn
                rw [Nat.zero_add] at h7
                exact h7
              rw [Bool.not_true, cond_false, h6, if_pos (fits_nat (n := n) (by omega)), hgo]
              cases askIn xs[n].1 (xs.take n) <;> rfl
end Go.Proofs.Ythodbhjnfeahhaa
