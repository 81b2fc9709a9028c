/- The law FnCacheNew, in plain Lean. -/
import Derived.Test.YthodbhjnfeahhaaP1
set_option linter.unusedVariables false
set_option linter.unusedSimpArgs false
namespace Go.Proofs.Ythodbhjnfeahhaa
open Go.RowKit
theorem cut_spec {α : Type} (xs : List α) (n : Nat) (h : n ≤ xs.length) : cut xs 0 (n : Int) = some (xs.take n) := by
  unfold cut
  rw [if_pos (by omega)]
  simp
theorem open_spec (N : Nat) (code : List Int) (hb : Bs code) : ∃ y, s_l30Open_m N code = some (y, 0) ∧ Bs y ∧ y.length ≤ 2000 := by
  unfold s_l30Open_m
  by_cases h : (2000 : Int) < (code.length : Int)
  · simp only [h, decide_true, cond_true]
    rw [show (2000 : Int) = ((2000 : Nat) : Int) from rfl, cut_spec code 2000 (by omega)]
    exact ⟨_, rfl, fun x hx => hb x (List.mem_of_mem_take hx), by simp; omega⟩
  · simp only [h, decide_false, cond_false]
    exact ⟨_, rfl, hb, by omega⟩
theorem one_spec (N : Nat) (l : List Int) (b : List Int) (k : Int) (hl0 : 0 < l.length) (hb : Bs b) (h0 : 0 ≤ k) (h1 : k ≤ 1099511627776) (hl : b.length ≤ 2000) : ∃ e, s_l30Rd_one_m N l b k = some (e, b, k + 1) ∧ e ∈ l := by
  obtain ⟨v, hv, v0, v1, _⟩ := pick_spec N l.length b k hb h0 h1 hl
  obtain ⟨e, he, hm⟩ := idx_get v0 (v1 (by omega))
  exact ⟨e, by simp only [s_l30Rd_one_m, hv, Option.bind_some, he], hm⟩
theorem within_spec (N : Nat) (n a b : Int) : i_within_m N n a b = some (decide (a ≤ n ∧ n ≤ b)) := by
  unfold i_within_m
  by_cases h : a ≤ n <;> simp [h]
theorem l1In_spec (N : Nat) (n a b : Int) : s_l1In_m N n a b = some (decide (a ≤ n ∧ n ≤ b)) := by
  unfold s_l1In_m
  by_cases h : a ≤ n <;> simp [h]
theorem fnCacheNew_law0 (M : Nat) (code : List Int) (hb : Bs code) : l_FnCacheNew_m (M + 1) code = some true := by
  unfold l_FnCacheNew_m
  by_cases h : (1048576 : Int) < (code.length : Int)
  · simp [h]
  obtain ⟨y, hy, hby, hl⟩ := open_spec (M + 1) code hb
  obtain ⟨e, he, hm⟩ := one_spec (M + 1) [1, 3, 5, 0, 6] y 0 (by decide) hby (by omega) (by omega) hl
  have hd : s_DrawCacheNew_m (M + 1) code = some e := by simp only [s_DrawCacheNew_m, hy, Option.bind_some, he]
  have z0 : l_foItems_m (M + 1) ([] : List ((List UInt8) × (List (Int × Int)))) [] = some true := by simp [l_foItems_m, iter]
  by_cases hw : 1 ≤ e ∧ e ≤ 5
  · have hc : i_CacheNew_m (M + 1) e = some (e, 0, []) := by simp [i_CacheNew_m, within_spec, hw]
    have hs : s_CacheNew_m (M + 1) e = some (e, 0) := by simp [s_CacheNew_m, l1In_spec, hw]
    have hf : l_foCache_m (M + 1) e 0 [] e 0 [] = some true := by simp [l_foCache_m, z0]
    have hne : ¬ e = 0 := by omega
    have hok : i_CacheOk_m (M + 1) e 0 [] = some true := by
      have : ¬ e < 0 := by omega
      simp [i_CacheOk_m, within_spec, hw, this, iter]
    simp [h, hd, hc, hs, hf, hne, hok]
  · have hc : i_CacheNew_m (M + 1) e = some (0, 0, []) := by simp [i_CacheNew_m, within_spec, hw]
    have hs : s_CacheNew_m (M + 1) e = some (0, 0) := by simp [s_CacheNew_m, l1In_spec, hw]
    have hf : l_foCache_m (M + 1) 0 0 [] 0 0 [] = some true := by simp [l_foCache_m, z0]
    simp [h, hd, hc, hs, hf]
theorem fnCacheNew_law (code : List Int) (hb : ∀ x, x ∈ code → 0 ≤ x ∧ x ≤ 255) : l_FnCacheNew_m (0 + 1) code = some true := fnCacheNew_law0 0 code hb
end Go.Proofs.Ythodbhjnfeahhaa
