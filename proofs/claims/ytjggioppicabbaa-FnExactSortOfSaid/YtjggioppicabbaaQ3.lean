/- Plain laws: the reader of draws. -/
import Derived.Test.YtjggioppicabbaaQ1
import Derived.Test.YtjggioppicabbaaP1
set_option linter.unusedVariables false
set_option linter.unusedSimpArgs false
namespace Go.Proofs.Ytjggioppicabbaa
open Go.RowKit
theorem cut_spec {α : Type} (xs : List α) (n : Nat) (h : n ≤ xs.length) : cut xs 0 (n : Int) = some (xs.take n) := by
  unfold cut
  rw [if_pos (by omega)]
  simp
theorem open_spec (N : Nat) (code : List Int) (hb : Bs code) : ∃ y, s_l30Open_m N code = some (y, 0) ∧ Bs y ∧ y.length ≤ 2000 := by
  unfold s_l30Open_m
  by_cases h : (2000 : Int) < (code.length : Int)
  · simp only [h, decide_true, cond_true]
    rw [show (2000 : Int) = ((2000 : Nat) : Int) from rfl, cut_spec code 2000 (by omega)]
    exact ⟨_, rfl, fun x hx => hb x (List.mem_of_mem_take hx), by simp; omega⟩
  · simp only [h, decide_false, cond_false]
    exact ⟨_, rfl, hb, by omega⟩
/-! ### the reader -/
def Rdr (b : List Int) (k : Int) (j : Nat) : Prop := Bs b ∧ b.length ≤ 2000 ∧ 0 ≤ k ∧ k ≤ j
theorem Rdr.le {b : List Int} {k : Int} {j j' : Nat} (h : Rdr b k j) (hj : j ≤ j') : Rdr b k j' := ⟨h.1, h.2.1, h.2.2.1, by have := h.2.2.2; omega⟩
theorem pick_def (N : Nat) (n : Int) {b : List Int} {k : Int} {j : Nat} (h : Rdr b k j) (hj : j ≤ 1000000) : Def (s_l30Rd_pick_m N n b k) fun r => 0 ≤ r.1 ∧ (1 ≤ n → r.1 < n) ∧ (n < 1 → r.1 = 0) ∧ Rdr r.2.1 r.2.2 (j + 1) := by
  obtain ⟨v, h1, h2, h3, h4⟩ := pick_spec N n b k h.1 h.2.2.1 (by have := h.2.2.2; omega) h.2.1
  exact ⟨_, h1, h2, h3, h4, h.1, h.2.1, by have := h.2.2.1; show (0:Int) ≤ k + 1; omega, by have := h.2.2.2; show k + 1 ≤ ((j + 1 : Nat) : Int); omega⟩
theorem of_def (N : Nat) {l : List (List UInt8)} {b : List Int} {k : Int} {j : Nat} (hl : 0 < l.length) (h : Rdr b k j) (hj : j ≤ 1000000) : Def (s_l30Rd_of_m N l b k) fun r => r.1 ∈ l ∧ Rdr r.2.1 r.2.2 (j + 1) := by
  unfold s_l30Rd_of_m
  refine Def.bind (pick_def N _ h hj) fun r ⟨h0, h1, _, h3⟩ => ?_
  exact Def.idx h0 (h1 (by omega)) fun x hx _ => Def.ret ⟨hx, h3⟩
theorem one_def (N : Nat) {l : List Int} {b : List Int} {k : Int} {j : Nat} (hl : 0 < l.length) (h : Rdr b k j) (hj : j ≤ 1000000) : Def (s_l30Rd_one_m N l b k) fun r => r.1 ∈ l ∧ Rdr r.2.1 r.2.2 (j + 1) := by
  unfold s_l30Rd_one_m
  refine Def.bind (pick_def N _ h hj) fun r ⟨h0, h1, _, h3⟩ => ?_
  exact Def.idx h0 (h1 (by omega)) fun x hx _ => Def.ret ⟨hx, h3⟩
theorem open_def (N : Nat) {code : List Int} (hb : Bs code) : Def (s_l30Open_m N code) fun r => Rdr r.1 r.2 0 := by
  obtain ⟨y, h1, h2, h3⟩ := open_spec N code hb
  exact ⟨_, h1, h2, h3, Int.le_refl _, Int.le_refl _⟩
end Go.Proofs.Ytjggioppicabbaa
