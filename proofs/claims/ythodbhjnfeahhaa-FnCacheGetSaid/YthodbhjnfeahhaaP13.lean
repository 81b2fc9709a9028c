/- Plain laws: spec.CacheGet. -/
import Derived.Test.YthodbhjnfeahhaaP12
set_option linter.unusedVariables false
set_option linter.unusedSimpArgs false
namespace Go.Proofs.Ythodbhjnfeahhaa
open Go.RowKit
theorem cut_tail {α : Type} (xs : List α) (n : Nat) (h : n ≤ xs.length) : cut xs (n : Int) (xs.length : Int) = some (xs.drop n) := by
  unfold cut
  rw [if_pos (by omega)]
  simp
theorem specGet_spec (M : Nat) (c g : Int) (xs : List DItem2) (ask : List UInt8) (gen : Int) (h : xs.length < M + 3) (hN : M + 3 ≤ 1099511627776) (hf : fewHits (M + 3) xs) : ∃ r, s_CacheGet_m (M + 3) c g xs ask gen = some r ∧ Got c g xs ask gen r := by
  unfold s_CacheGet_m
  rw [l24Ok_spec (M + 3) c g xs h (by omega) hf, Option.bind_some]
  cases hok : okCache c g xs with
  | false => exact ⟨_, rfl, .bad hok⟩
  | true =>
    rw [Bool.not_true, cond_false, copy_spec (M + 3) c g xs h hN hf, Option.bind_some]
    by_cases hg : gen = g
    · rcases find_pos ask xs 0 with ⟨h1, h2⟩ | ⟨m, hm, h1, h2, h3⟩
      · refine ⟨(c, g, xs, [], false), ?_, .none hok (.inr h2)⟩
        refine (iter_scan _ xs.length (fun n => (ask, gen, (n : Int), c, g, xs, 0, 0, c, g, xs)) (fun n => some (c, g, xs, [], false)) (fun go => ?_) (fun go n hn hgo => ?_) (M + 3) 0 (Nat.zero_le _) (by omega))
        · dsimp only
          rw [decide_eq_false (Int.lt_irrefl _), cond_false]
        · have hn' : (n : Int) < (xs.length : Int) := by omega
          have hne : ¬ xs[n].1 = ask := by
            simp only [askIn, List.any_eq_false] at h2
            simpa using h2 xs[n] (List.getElem_mem hn)
          simp only [cast_succ'] at hgo
          dsimp only
          rw [decide_eq_true hn', cond_true, decide_eq_true hg, cond_true, idx_at hn, Option.bind_some, decide_eq_false hne, cond_false, if_pos (fits_nat (n := n) (by omega))]
          exact hgo
      · refine ⟨(c, g, xs[m] :: (xs.take m ++ xs.drop (m + 1)), xs[m].2, true), ?_, .got hok hg m hm h2⟩
        have hx := hf xs[m] (List.getElem_mem hm)
        refine (iter_scan _ m (fun n => (ask, gen, (n : Int), c, g, xs, 0, 0, c, g, xs)) (fun n => some (c, g, xs[m] :: (xs.take m ++ xs.drop (m + 1)), xs[m].2, true)) (fun go => ?_) (fun go n hn hgo => ?_) (M + 3) 0 (Nat.zero_le _) (by omega))
        · have hm' : (m : Int) < (xs.length : Int) := by omega
          have ec : cut xs ((m : Int) + 1) (xs.length : Int) = some (xs.drop (m + 1)) := by
            rw [← cast_succ']; exact cut_tail xs (m + 1) (by omega)
          dsimp only
          rw [decide_eq_true hm', cond_true, decide_eq_true hg, cond_true, idx_at hm, Option.bind_some, decide_eq_true h2, cond_true, Option.bind_some, cut_spec xs m (by omega), Option.bind_some,
            if_pos (room_of (by simp only [List.length_cons, List.length_nil, List.length_take]; omega) (by simp only [List.length_cons, List.length_nil, List.length_take]; omega)), if_pos (fits_nat (n := m) (by omega)), ec, Option.bind_some,
            if_pos (room_of (by simp only [List.length_cons, List.length_nil, List.length_append, List.length_take, List.length_drop]; omega) (by simp only [List.length_cons, List.length_nil, List.length_append, List.length_take, List.length_drop]; omega)),
            if_pos (room_of (by simp only [List.length_nil]; omega) (by simp only [List.length_nil]; omega))]
          rfl
        · have hml : n < xs.length := by omega
          have hn' : (n : Int) < (xs.length : Int) := by omega
          have hne : ¬ xs[n].1 = ask := by
            simp only [askIn, List.any_eq_false] at h3
            simpa using h3 xs[n] (by rw [List.mem_take_iff_getElem]; exact ⟨n, by omega, rfl⟩)
          simp only [cast_succ'] at hgo
          dsimp only
          rw [decide_eq_true hn', cond_true, decide_eq_true hg, cond_true, idx_at hml, Option.bind_some, decide_eq_false hne, cond_false, if_pos (fits_nat (n := n) (by omega))]
          exact hgo
    · refine ⟨(c, g, xs, [], false), ?_, .none hok (.inl hg)⟩
      refine (iter_scan _ 0 (fun n => (ask, gen, (n : Int), c, g, xs, 0, 0, c, g, xs)) (fun n => some (c, g, xs, [], false)) (fun go => ?_) (fun go n hn hgo => by omega) (M + 3) 0 (Nat.zero_le _) (by omega))
      dsimp only
      rw [decide_eq_false hg, cond_false]
      cases decide (((0 : Nat) : Int) < (xs.length : Int)) <;> rfl
end Go.Proofs.Ythodbhjnfeahhaa
