/- Plain laws: what is got out of a cache. -/
import Derived.Test.YthodbhjnfeahhaaP10
set_option linter.unusedVariables false
set_option linter.unusedSimpArgs false
namespace Go.Proofs.Ythodbhjnfeahhaa
open Go.RowKit
theorem others_at {xs : List DItem2} (h : okItems xs xs 0 = true) {i : Nat} (hi : i < xs.length) : others xs[i].1 xs = xs.take i ++ xs.drop (i + 1) := by
  have e : xs = xs.take i ++ xs[i] :: xs.drop (i + 1) := by
    rw [← List.drop_eq_getElem_cons hi, List.take_append_drop]
  have h1 : others xs[i].1 (xs.take i) = xs.take i := by
    unfold others
    rw [List.filter_eq_self]
    intro x hx
    obtain ⟨k, hk, rfl⟩ := List.mem_iff_getElem.1 hx
    have hk' : k < i := by simp at hk; omega
    have := ok_once h hi hk'
    simpa using this
  have h2 : others xs[i].1 (xs.drop (i + 1)) = xs.drop (i + 1) := by
    unfold others
    rw [List.filter_eq_self]
    intro x hx
    obtain ⟨k, hk, rfl⟩ := List.mem_iff_getElem.1 hx
    simp only [List.length_drop] at hk
    have := ok_once h (i := i + 1 + k) (k := i) (by omega) (by omega)
    simp only [List.getElem_drop]
    simpa using fun e => this e.symm
  have h3 : others xs[i].1 xs = others xs[i].1 (xs.take i ++ xs[i] :: xs.drop (i + 1)) := by rw [← e]
  rw [h3]
  unfold others at h1 h2 ⊢
  rw [List.filter_append, List.filter_cons, h1, h2]
  simp
/-- Where an item is found. -/
theorem find_pos : ∀ (a : List UInt8) (xs : List DItem2) (i : Nat), (findFrom a xs (i : Int) = -1 ∧ askIn a xs = false) ∨ ∃ n : Nat, ∃ hn : n < xs.length, findFrom a xs (i : Int) = ((i + n : Nat) : Int) ∧ xs[n].1 = a ∧ askIn a (xs.take n) = false
  | a, [], i => .inl ⟨rfl, rfl⟩
  | a, x :: xs, i => by
    by_cases e : x.1 = a
    · exact .inr ⟨0, by simp, by simp [findFrom, e], e, rfl⟩
    · rcases find_pos a xs (i + 1) with ⟨h1, h2⟩ | ⟨n, hn, h1, h2, h3⟩
      · rw [cast_succ'] at h1
        exact .inl ⟨by simp only [findFrom, if_neg e]; exact h1, by simp only [askIn, List.any_cons, decide_eq_false e, Bool.false_or]; exact h2⟩
      · rw [cast_succ'] at h1
        refine .inr ⟨n + 1, by simpa using hn, ?_, h2, ?_⟩
        · simp only [findFrom, if_neg e]
          rw [h1]; omega
        · simp only [List.take_succ_cons, askIn, List.any_cons, decide_eq_false e, Bool.false_or]
          exact h3
end Go.Proofs.Ythodbhjnfeahhaa
