/- Plain laws: comparing what is found. -/
import Derived.Test.YthodbhjnfeahhaaP3
set_option linter.unusedVariables false
set_option linter.unusedSimpArgs false
namespace Go.Proofs.Ythodbhjnfeahhaa
open Go.RowKit
theorem drop_eq_iff {α : Type} [DecidableEq α] {a b : List α} {n : Nat} (h : n < a.length) (hb : n < b.length) : (decide (a.drop n = b.drop n)) = (decide (a[n] = b[n]) && decide (a.drop (n + 1) = b.drop (n + 1))) := by
  rw [Bool.eq_iff_iff, Bool.and_eq_true, decide_eq_true_eq, decide_eq_true_eq, decide_eq_true_eq, List.drop_eq_getElem_cons h, List.drop_eq_getElem_cons hb, List.cons.injEq]
theorem foHits_spec (N : Nat) (a b : List DHit2) (h : a.length < N) (hl : (a.length : Int) ≤ 9223372036854775806) : l_foHits_m N a b = some (decide (a = b)) := by
  unfold l_foHits_m
  by_cases he : a.length = b.length
  · have he' : (a.length : Int) = (b.length : Int) := by omega
    rw [decide_eq_true he', Bool.not_true, cond_false]
    refine (iter_scan _ a.length (fun n => (a, b, (n : Int))) (fun n => some (decide (a.drop n = b.drop n))) (fun go => ?_) (fun go n hn hgo => ?_) N 0 (Nat.zero_le _) (by omega)).trans (by simp)
    · have e2 : b.drop a.length = [] := by rw [he]; simp
      simp [e2]
    · have hn' : (n : Int) < (a.length : Int) := by omega
      have hnb : n < b.length := by omega
      dsimp only
      rw [decide_eq_true hn', cond_true, idx_at hn, Option.bind_some, idx_at hnb, Option.bind_some, drop_eq_iff hn hnb]
      have e3 : (decide (a[n] = b[n])) = (decide (a[n].1 = b[n].1) && decide (a[n].2 = b[n].2)) := by
        rw [Bool.eq_iff_iff]; simp [Prod.ext_iff]
      rw [e3]
      cases hd : (decide (a[n].1 = b[n].1) && decide (a[n].2 = b[n].2)) with
      | false => simp
      | true =>
        rw [Bool.not_true, cond_false, if_pos (fits_nat (n := n) (by omega)), Bool.true_and]
        simp only [cast_succ'] at hgo
        exact hgo
  · have he' : ¬ (a.length : Int) = (b.length : Int) := by omega
    rw [decide_eq_false he', Bool.not_false, cond_true]
    have : a ≠ b := fun e => he (by rw [e])
    simp [this]
/-- Hits that are not too many. -/
def fewHits (M : Nat) (xs : List DItem2) : Prop := ∀ x, x ∈ xs → x.2.length < M
theorem foItems_spec (N : Nat) (a b : List DItem2) (h : a.length < N) (hN : (N : Int) ≤ 9223372036854775806) (hf : fewHits N a) : l_foItems_m N a b = some (decide (a = b)) := by
  unfold l_foItems_m
  by_cases he : a.length = b.length
  · have he' : (a.length : Int) = (b.length : Int) := by omega
    rw [decide_eq_true he', Bool.not_true, cond_false]
    refine (iter_scan _ a.length (fun n => (a, b, (n : Int))) (fun n => some (decide (a.drop n = b.drop n))) (fun go => ?_) (fun go n hn hgo => ?_) N 0 (Nat.zero_le _) (by omega)).trans (by simp)
    · have e2 : b.drop a.length = [] := by rw [he]; simp
      simp [e2]
    · have hn' : (n : Int) < (a.length : Int) := by omega
      have hnb : n < b.length := by omega
      have hlen := hf a[n] (List.getElem_mem hn)
      dsimp only
      rw [decide_eq_true hn', cond_true, idx_at hn, Option.bind_some, idx_at hnb, Option.bind_some, Option.bind_some, Option.bind_some, drop_eq_iff hn hnb]
      have e3 : (decide (a[n] = b[n])) = (decide (a[n].1 = b[n].1) && decide (a[n].2 = b[n].2)) := by
        rw [Bool.eq_iff_iff]; simp [Prod.ext_iff]
      rw [e3, foHits_spec N a[n].2 b[n].2 hlen (by omega), Option.bind_some]
      cases hd : decide (a[n].1 = b[n].1) with
      | false => simp
      | true =>
        rw [Bool.not_true, cond_false, Bool.true_and]
        cases hd2 : decide (a[n].2 = b[n].2) with
        | false => simp
        | true =>
          rw [Bool.not_true, cond_false, if_pos (fits_nat (n := n) (by omega)), Bool.true_and]
          simp only [cast_succ'] at hgo
          exact hgo
  · have he' : ¬ (a.length : Int) = (b.length : Int) := by omega
    rw [decide_eq_false he', Bool.not_false, cond_true]
    have : a ≠ b := fun e => he (by rw [e])
    simp [this]
theorem foCache_spec (N : Nat) (m g : Int) (a : List DItem2) (m' g' : Int) (b : List DItem2) (h : a.length < N) (hN : (N : Int) ≤ 9223372036854775806) (hf : fewHits N a) : l_foCache_m N m g a m' g' b = some (decide ((m, g, a) = (m', g', b))) := by
  unfold l_foCache_m
  rw [foItems_spec N a b h hN hf, Option.bind_some]
  by_cases h1 : m = m' <;> by_cases h2 : g = g' <;> simp [h1, h2]
end Go.Proofs.Ythodbhjnfeahhaa
