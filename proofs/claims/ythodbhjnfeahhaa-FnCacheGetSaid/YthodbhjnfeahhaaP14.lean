/- Plain laws: both answers of CacheGet are one. -/
import Derived.Test.YthodbhjnfeahhaaP13
set_option linter.unusedVariables false
set_option linter.unusedSimpArgs false
namespace Go.Proofs.Ythodbhjnfeahhaa
open Go.RowKit
theorem askIn_of {a : List UInt8} {xs : List DItem2} {n : Nat} (hn : n < xs.length) (h : xs[n].1 = a) : askIn a xs = true := by
  simp only [askIn, List.any_eq_true]
  exact ⟨xs[n], List.getElem_mem hn, by simpa using h⟩
theorem Got.same {c g : Int} {xs : List DItem2} {ask : List UInt8} {gen : Int} {r r' : Int × Int × List DItem2 × List DHit2 × Bool} (h : Got c g xs ask gen r) (h' : Got c g xs ask gen r') : r = r' := by
  cases h with
  | bad h1 => cases h' with
    | bad _ => rfl
    | none h2 _ => rw [h1] at h2; cases h2
    | got h2 _ _ _ _ => rw [h1] at h2; cases h2
  | none h1 hn => cases h' with
    | bad h2 => rw [h1] at h2; cases h2
    | none _ _ => rfl
    | got h2 hg n hl ha =>
      rcases hn with hn | hn
      · exact absurd hg hn
      · rw [askIn_of hl ha] at hn; cases hn
  | got h1 hg n hl ha => cases h' with
    | bad h2 => rw [h1] at h2; cases h2
    | none _ hn =>
      rcases hn with hn | hn
      · exact absurd hg hn
      · rw [askIn_of hl ha] at hn; cases hn
    | got _ _ m hm hb =>
      have hit := okCache_items h1
      have e : n = m := by
        rcases Nat.lt_trichotomy n m with hlt | he | hlt
        · exact absurd (ha.trans hb.symm) (ok_once hit hm hlt)
        · exact he
        · exact absurd (hb.trans ha.symm) (ok_once hit hl hlt)
      subst e
      rfl
/-- Both answers are one. -/
theorem get_same (M : Nat) (c g : Int) (xs : List DItem2) (ask : List UInt8) (gen : Int) (h : xs.length < M + 3) (hN : M + 3 ≤ 1099511627776) (hf : fewHits (M + 3) xs) : ∃ r, i_CacheGet_m (M + 3) c g xs ask gen = some r ∧ s_CacheGet_m (M + 3) c g xs ask gen = some r ∧ Got c g xs ask gen r := by
  obtain ⟨r, h1, h2⟩ := implGet_spec M c g xs ask gen h hN hf
  obtain ⟨r', h3, h4⟩ := specGet_spec M c g xs ask gen h hN hf
  obtain rfl := h2.same h4
  exact ⟨r, h1, h3, h2⟩
end Go.Proofs.Ythodbhjnfeahhaa
