/- Plain laws: items that are ok ask each once. -/
import Derived.Test.YthodbhjnfeahhaaP9
set_option linter.unusedVariables false
set_option linter.unusedSimpArgs false
namespace Go.Proofs.Ythodbhjnfeahhaa
open Go.RowKit
theorem okItems_at (xs : List DItem2) : ∀ (l : List DItem2) (n i : Nat) (hi : i < l.length), okItems xs l n = true → okItem xs (n + i) l[i] = true
  | [], _, _, h, _ => absurd h (Nat.not_lt_zero _)
  | x :: l, n, 0, _, h => by simp only [okItems, Bool.and_eq_true] at h; exact h.1
  | x :: l, n, i + 1, hi, h => by
    simp only [okItems, Bool.and_eq_true] at h
    have := okItems_at xs l (n + 1) i (by simpa using hi) h.2
    rw [show n + (i + 1) = n + 1 + i by omega]
    exact this
theorem ok_ask {xs : List DItem2} (h : okItems xs xs 0 = true) {i : Nat} (hi : i < xs.length) : xs[i].1 ≠ [] := by
  have := okItems_at xs xs 0 i hi h
  simp only [okItem, Bool.and_eq_true] at this
  simpa using this.1.1
theorem ok_once {xs : List DItem2} (h : okItems xs xs 0 = true) {i k : Nat} (hi : i < xs.length) (hk : k < i) : xs[k].1 ≠ xs[i].1 := by
  have := okItems_at xs xs 0 i hi h
  simp only [okItem, Bool.and_eq_true, Nat.zero_add, askIn, Bool.not_eq_true', List.any_eq_false] at this
  have h2 := this.2 xs[k] (by
    rw [List.mem_take_iff_getElem]
    exact ⟨k, by omega, rfl⟩)
  simpa using h2
theorem others_none {xs : List DItem2} (h : okItems xs xs 0 = true) : others [] xs = xs := by
  unfold others
  rw [List.filter_eq_self]
  intro x hx
  obtain ⟨i, hi, rfl⟩ := List.mem_iff_getElem.1 hx
  simpa using ok_ask h hi
end Go.Proofs.Ythodbhjnfeahhaa
