/- Plain laws: a copy of a cache. -/
import Derived.Test.YthodbhjnfeahhaaP8
set_option linter.unusedVariables false
set_option linter.unusedSimpArgs false
namespace Go.Proofs.Ythodbhjnfeahhaa
open Go.RowKit
theorem copy_spec (N : Nat) (c c2 : Int) (xs : List DItem2) (h : xs.length < N) (hN : N ≤ 1099511627776) (hf : fewHits N xs) : s_l24Copy_m N c c2 xs = some (c, c2, xs) := by
  unfold s_l24Copy_m
  refine (iter_scan _ xs.length (fun n => ((n : Int), c, c2, xs, 0, 0, c, c2, xs.take n)) (fun n => some (c, c2, xs)) (fun go => ?_) (fun go n hn hgo => ?_) N 0 (Nat.zero_le _) (by omega))
  · dsimp only
    rw [decide_eq_false (Int.lt_irrefl _), cond_false, List.take_length]
  · have hn' : (n : Int) < (xs.length : Int) := by omega
    have hx := hf xs[n] (List.getElem_mem hn)
    have hol : (xs.take n).length ≤ n := by simp only [List.length_take]; omega
    simp only [cast_succ'] at hgo
    rw [List.take_succ_eq_append_getElem hn] at hgo
    dsimp only
    rw [decide_eq_true hn', cond_true, idx_at hn, Option.bind_some, Option.bind_some, if_pos (room_of (by simp only [List.length_nil]; omega) (by simp only [List.length_nil]; omega)), if_pos (room_of (by simp only [List.length_cons, List.length_nil]; omega) (by simp only [List.length_cons, List.length_nil]; omega)), if_pos (fits_nat (n := n) (by omega)), List.nil_append]
    exact hgo
end Go.Proofs.Ythodbhjnfeahhaa
