/- Plain laws: caches without an item. -/
import Derived.Test.YthodbhjnfeahhaaP7
set_option linter.unusedVariables false
set_option linter.unusedSimpArgs false
namespace Go.Proofs.Ythodbhjnfeahhaa
open Go.RowKit
theorem room_of {n m b : Nat} (h : (n + m) * b ≤ 140737488355328) (h2 : ((n + m : Nat) : Int) ≤ 9223372036854775000) : room n m b := ⟨h, by omega⟩
def others (ask : List UInt8) (xs : List DItem2) : List DItem2 := xs.filter fun x => !decide (x.1 = ask)
theorem others_take (ask : List UInt8) (xs : List DItem2) (n : Nat) (h : n < xs.length) : others ask (xs.take (n + 1)) = others ask (xs.take n) ++ (if xs[n].1 = ask then [] else [xs[n]]) := by
  unfold others
  rw [List.take_succ_eq_append_getElem h, List.filter_append]
  congr 1
  by_cases e : xs[n].1 = ask <;> simp [e]
theorem without_spec (N : Nat) (c c2 : Int) (xs : List DItem2) (ask : List UInt8) (h : xs.length < N) (hN : N ≤ 1099511627776) (hf : fewHits N xs) : i_Cache_without_m N c c2 xs ask = some (others ask xs) := by
  unfold i_Cache_without_m
  refine (iter_scan _ xs.length (fun n => (ask, others ask (xs.take n), xs, (xs.length : Int), (n : Int))) (fun n => some (others ask xs)) (fun go => ?_) (fun go n hn hgo => ?_) N 0 (Nat.zero_le _) (by omega))
  · dsimp only
    rw [decide_eq_false (Int.lt_irrefl _), cond_false, List.take_length]
  · have hn' : (n : Int) < (xs.length : Int) := by omega
    have hx := hf xs[n] (List.getElem_mem hn)
    have hol : (others ask (xs.take n)).length ≤ n := by
      have := List.length_filter_le (fun x : DItem2 => !decide (x.1 = ask)) (xs.take n)
      simp only [List.length_take] at this
      unfold others
      omega
    simp only [cast_succ'] at hgo
    rw [others_take ask xs n hn] at hgo
    dsimp only
    rw [decide_eq_true hn', cond_true, idx_at hn, Option.bind_some]
    by_cases e : xs[n].1 = ask
    · rw [if_pos e, List.append_nil] at hgo
      rw [decide_eq_true e, Bool.not_true, cond_false, if_pos (fits_nat (n := n) (by omega))]
      exact hgo
    · rw [if_neg e] at hgo
      rw [decide_eq_false e, Bool.not_false, cond_true, if_pos (room_of (by simp only [List.length_nil]; omega) (by simp only [List.length_nil]; omega)), if_pos (room_of (by simp only [List.length_cons, List.length_nil]; omega) (by simp only [List.length_cons, List.length_nil]; omega)), if_pos (fits_nat (n := n) (by omega)), List.nil_append]
      exact hgo
end Go.Proofs.Ythodbhjnfeahhaa
