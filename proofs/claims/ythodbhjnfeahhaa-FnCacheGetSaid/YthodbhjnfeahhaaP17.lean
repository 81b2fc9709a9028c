/- Plain laws: items that are ok, in another order. -/
import Derived.Test.YthodbhjnfeahhaaP16
set_option linter.unusedVariables false
set_option linter.unusedSimpArgs false
namespace Go.Proofs.Ythodbhjnfeahhaa
open Go.RowKit
theorem okItems_of (xs : List DItem2) : ∀ (l : List DItem2) (n : Nat), (∀ i (hi : i < l.length), okItem xs (n + i) l[i] = true) → okItems xs l n = true
  | [], _, _ => rfl
  | x :: l, n, h => by
    simp only [okItems, Bool.and_eq_true]
    refine ⟨h 0 (by simp), okItems_of xs l (n + 1) fun i hi => ?_⟩
    have := h (i + 1) (by simpa using hi)
    rw [show n + 1 + i = n + (i + 1) by omega]
    exact this
def goodItem (x : DItem2) : Prop := x.1 ≠ [] ∧ okFrom x.2 x.2 0 = true
theorem okItems_iff (xs : List DItem2) : okItems xs xs 0 = true ↔ (∀ x, x ∈ xs → goodItem x) ∧ (xs.map (·.1)).Nodup := by
  constructor
  · intro h
    refine ⟨fun x hx => ?_, ?_⟩
    · obtain ⟨i, hi, rfl⟩ := List.mem_iff_getElem.1 hx
      have := okItems_at xs xs 0 i hi h
      simp only [okItem, Bool.and_eq_true] at this
      exact ⟨ok_ask h hi, this.1.2⟩
    · rw [List.nodup_iff_pairwise_ne, List.pairwise_iff_getElem]
      intro i j hi hj hij
      simp only [List.getElem_map]
      exact ok_once h (by simpa using hj) hij
  · rintro ⟨h1, h2⟩
    refine okItems_of xs xs 0 fun i hi => ?_
    have hg := h1 xs[i] (List.getElem_mem hi)
    simp only [okItem, Bool.and_eq_true, Bool.not_eq_true', Nat.zero_add]
    refine ⟨⟨by simpa using hg.1, hg.2⟩, ?_⟩
    simp only [askIn, List.any_eq_false]
    intro x hx
    obtain ⟨k, hk, rfl⟩ := List.mem_take_iff_getElem.1 hx
    rw [List.nodup_iff_pairwise_ne, List.pairwise_iff_getElem] at h2
    have := h2 k i (by simp; omega) (by simpa using hi) (by omega)
    simpa using this
theorem okItems_perm {xs ys : List DItem2} (h : xs.Perm ys) (hx : okItems xs xs 0 = true) : okItems ys ys 0 = true := by
  rw [okItems_iff] at hx ⊢
  exact ⟨fun y hy => hx.1 y (h.mem_iff.2 hy), ((h.map _).nodup_iff).1 hx.2⟩
theorem front_perm (xs : List DItem2) (n : Nat) (hn : n < xs.length) : (xs[n] :: (xs.take n ++ xs.drop (n + 1))).Perm xs := by
  have h1 : xs.take n ++ xs[n] :: xs.drop (n + 1) = xs := by
    rw [← List.drop_eq_getElem_cons hn, List.take_append_drop]
  refine (List.perm_middle (a := xs[n]) (l₁ := xs.take n) (l₂ := xs.drop (n + 1))).symm.trans ?_
  rw [h1]
theorem okCache_front {c g : Int} {xs : List DItem2} (h : okCache c g xs = true) (n : Nat) (hn : n < xs.length) : okCache c g (xs[n] :: (xs.take n ++ xs.drop (n + 1))) = true := by
  have hp := front_perm xs n hn
  have hl := hp.length_eq
  simp only [okCache, Bool.and_eq_true] at h ⊢
  rw [hl]
  exact ⟨h.1, okItems_perm hp.symm h.2⟩
theorem few_perm {M : Nat} {xs ys : List DItem2} (h : xs.Perm ys) (hx : fewHits M xs) : fewHits M ys := fun y hy => hx y (h.mem_iff.2 hy)
theorem few_le {M M' : Nat} {xs : List DItem2} (h : fewHits M xs) (hM : M ≤ M') : fewHits M' xs := fun x hx => Nat.lt_of_lt_of_le (h x hx) hM
end Go.Proofs.Ythodbhjnfeahhaa
