/- Plain laws: impl.CacheGet. -/
import Derived.Test.YthodbhjnfeahhaaP11
set_option linter.unusedVariables false
set_option linter.unusedSimpArgs false
namespace Go.Proofs.Ythodbhjnfeahhaa
open Go.RowKit
theorem okCache_items {c g : Int} {xs : List DItem2} (h : okCache c g xs = true) : okItems xs xs 0 = true := by
  simp only [okCache, Bool.and_eq_true] at h; exact h.2
/-- What is got: the cache behind it, the hits, whether there are any. -/
inductive Got (c g : Int) (xs : List DItem2) (ask : List UInt8) (gen : Int) : Int × Int × List DItem2 × List DHit2 × Bool → Prop
  | bad (h : okCache c g xs = false) : Got c g xs ask gen (0, 0, [], [], false)
  | none (h : okCache c g xs = true) (hn : gen ≠ g ∨ askIn ask xs = false) : Got c g xs ask gen (c, g, xs, [], false)
  | got (h : okCache c g xs = true) (hg : gen = g) (n : Nat) (hn : n < xs.length) (ha : xs[n].1 = ask) : Got c g xs ask gen (c, g, xs[n] :: (xs.take n ++ xs.drop (n + 1)), xs[n].2, true)
theorem implGet_spec (M : Nat) (c g : Int) (xs : List DItem2) (ask : List UInt8) (gen : Int) (h : xs.length < M + 3) (hN : M + 3 ≤ 1099511627776) (hf : fewHits (M + 3) xs) : ∃ r, i_CacheGet_m (M + 3) c g xs ask gen = some r ∧ Got c g xs ask gen r := by
  unfold i_CacheGet_m
  rw [cacheOk_spec M c g xs h (by omega) hf, Option.bind_some]
  cases hok : okCache c g xs with
  | false => exact ⟨_, rfl, .bad hok⟩
  | true =>
    have hit := okCache_items hok
    rw [Bool.not_true, cond_false, find_spec (M + 3) c g xs ask h (by omega), Option.bind_some, without_spec (M + 3) c g xs [] h hN hf, others_none hit]
    by_cases hg : gen = g
    · rw [decide_eq_true hg, Bool.not_true, cond_false]
      rcases find_pos ask xs 0 with ⟨h1, h2⟩ | ⟨n, hn, h1, h2, h3⟩
      · have h1' : findFrom ask xs 0 = -1 := h1
        rw [h1']
        exact ⟨_, rfl, .none hok (.inr h2)⟩
      · have h1' : findFrom ask xs 0 = (n : Int) := by
          have : findFrom ask xs 0 = ((0 + n : Nat) : Int) := h1
          rwa [Nat.zero_add] at this
        have hneg : ¬ (n : Int) < 0 := by omega
        have hx := hf xs[n] (List.getElem_mem hn)
        have ho := others_at hit hn
        rw [h2] at ho
        rw [h1', decide_eq_false hneg, cond_false, idx_at hn, Option.bind_some, if_pos (room_of (by simp only [List.length_nil]; omega) (by simp only [List.length_nil]; omega)), without_spec (M + 3) c g xs ask h hN hf, Option.bind_some, ho,
          if_pos (room_of (by simp only [List.length_cons, List.length_nil, List.length_append, List.length_take, List.length_drop]; omega) (by simp only [List.length_cons, List.length_nil, List.length_append, List.length_take, List.length_drop]; omega))]
        rw [if_pos (room_of (by simp only [List.length_nil]; omega) (by simp only [List.length_nil]; omega))]
        refine ⟨_, rfl, ?_⟩
        have e : (ask, ([] : List DHit2) ++ xs[n].2) = xs[n] := by rw [List.nil_append, ← h2]
        rw [e]
        exact .got hok hg n hn h2
    · rw [decide_eq_false hg, Bool.not_false, cond_true]
      exact ⟨_, rfl, .none hok (.inl hg)⟩
end Go.Proofs.Ythodbhjnfeahhaa
