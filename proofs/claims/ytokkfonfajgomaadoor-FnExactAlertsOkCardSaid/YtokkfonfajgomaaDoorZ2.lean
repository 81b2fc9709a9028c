/- Plain laws: a question is ok, as the reference and as the engine see it. -/
import Derived.Test.YtokkfonfajgomaaDoorZ1
set_option linter.unusedVariables false
set_option linter.unusedSimpArgs false
namespace Go.Proofs.YtokkfonfajgomaaDoor
open Go.RowKit
theorem bif_some {c : Bool} {x y : Option Bool} {p q : Bool} (h1 : c = true → x = some p) (h2 : c = false → y = some q) : (bif c then x else y) = some (bif c then p else q) := by
  cases c
  · exact h2 rfl
  · exact h1 rfl
theorem one_list {α : Type} {xs : List α} (h : decide ((xs.length : Int) = 1) = true) : ∃ x, xs = [x] := by
  have := of_decide_eq_true h
  match xs, this with
  | [x], _ => exact ⟨x, rfl⟩
theorem l11One_spec (N : Nat) (hM : Sm < N) (hN : N ≤ 1099511627776) (k : Int) (f : List UInt8) (ws : List (List UInt8)) (a b : Int) (kids : List DQ) (hf : f.length ≤ 1048576) (h : ws.length ≤ 1048576) (hw : ∀ w, w ∈ ws → w.length ≤ 1048576) : s_l11One_m N k f ws a b kids = some (oneQ k f ws a b kids) := by
  have hM' : 1048576 < N := hM
  have hfw := l1WordOk_spec N f (by omega) hN
  have hW := words_spec N hM hN ws
  unfold s_l11One_m oneQ
  refine bif_some (fun _ => ?_) (fun _ => bif_some (fun _ => ?_) (fun _ => bif_some (fun _ => ?_) (fun _ => bif_some (fun _ => ?_) (fun _ => bif_some (fun _ => ?_) (fun _ => bif_some (fun _ => ?_) (fun _ => ?_))))))
  · rw [bare_spec, Option.bind_some]
    rfl
  · rw [bare_spec, Option.bind_some]
    simp only [hfw, hW _ h hw, Option.bind_some, Bool.true_or, Bool.false_or, Bool.true_and]
    generalize (decide (a = 0) && decide (b = 0)) = p
    generalize nilB kids = q
    generalize okW f = r
    rw [show (decide ((1 : Int) ≤ ws.length) && decide ((ws.length : Int) ≤ 1)) = decide ((ws.length : Int) = 1) from by rw [Bool.eq_iff_iff]; simp only [Bool.and_eq_true, decide_eq_true_eq]; omega]
    cases p <;> cases q <;> cases r <;> rfl
  · rw [bare_spec, Option.bind_some]
    simp only [hfw, hW _ h hw, l1In_spec, Option.bind_some, Bool.true_or, Bool.false_or, Bool.true_and]
    generalize nilB kids = q
    generalize okW f = r
    generalize ws.all okW = t
    rw [show decide ((2 : Int) ≤ ws.length) = (decide ((1 : Int) < ws.length)) from by congr 1]
    by_cases h1 : (1 : Int) < ws.length
    · rw [decide_eq_true h1, decide_eq_true (by omega : (1 : Int) ≤ ws.length)]
      cases q <;> cases r <;> cases t <;> cases decide ((ws.length : Int) ≤ 4) <;> cases decide (b = 0) <;> rfl
    · rw [decide_eq_false h1]
      cases q <;> cases r <;> cases t <;> cases (decide ((1 : Int) ≤ ws.length)) <;> cases decide ((ws.length : Int) ≤ 4) <;> rfl
  · rw [bare_spec, Option.bind_some]
    simp only [hfw, hW _ h hw, l1In_spec, Option.bind_some, Bool.true_or, Bool.false_or, Bool.true_and]
    rw [show (decide ((1 : Int) ≤ ws.length) && decide ((ws.length : Int) ≤ 1)) = decide ((ws.length : Int) = 1) from by rw [Bool.eq_iff_iff]; simp only [Bool.and_eq_true, decide_eq_true_eq]; omega]
    generalize nilB kids = q
    generalize okW f = r
    generalize ws.all okW = t
    cases q <;> cases r <;> cases t <;> cases decide ((ws.length : Int) = 1) <;> cases decide (b = 0) <;> rfl
  · rw [bare_spec, Option.bind_some]
    simp only [hfw, Option.bind_some, Bool.true_or, Bool.false_or, Bool.true_and]
    generalize (decide (a = 0) && decide (b = 0)) = p
    generalize nilB kids = q
    generalize okW f = r
    cases h1 : decide ((ws.length : Int) = 1) with
    | false =>
      cases p <;> cases q <;> cases r <;> cases (ws.all fun w => okG w && !okW w) <;> rfl
    | true =>
      obtain ⟨w, rfl⟩ := one_list h1
      have h2 := hw w List.mem_cons_self
      have e : idx [w] (0 : Int) = some w := rfl
      simp only [e, Option.bind_some, l5GlobOk_spec N w (by omega) (by omega) hN, l1WordOk_spec N w (by omega) hN, List.all_cons, List.all_nil]
      generalize okG w = x
      generalize okW w = y
      cases p <;> cases q <;> cases r <;> cases x <;> cases y <;> rfl
  · rw [bare_spec, Option.bind_some]
    simp only [hfw, l1In_spec, Option.bind_some, Bool.true_or, Bool.false_or, Bool.true_and]
    generalize nilB kids = q
    generalize nilB ws = p
    generalize okW f = r
    generalize (decide (0 ≤ a) && decide (a ≤ 999999999)) = s
    cases p <;> cases q <;> cases r <;> cases s <;> rfl
  · simp only [meet, bare_spec, l1In_spec, Option.bind_some, Bool.true_or, Bool.false_or, Bool.true_and, Bool.and_true]
    generalize decide (f = []) = p
    generalize nilB ws = q
    generalize decide (a = 0) = r
    generalize hs : decide (b = 0) = s
    generalize decide (k = 7) = k7
    generalize decide (k = 8) = k8
    generalize decide (k = 9) = k9
    generalize decide (k = 10) = k10
    generalize (decide ((2 : Int) ≤ kids.length) && decide ((kids.length : Int) ≤ 4)) = x
    generalize (decide ((kids.length : Int) = 2)) = x2
    generalize (decide ((kids.length : Int) = 1)) = x1
    generalize (decide (2 ≤ a) && decide (a ≤ 9)) = y
    cases k7 <;> cases k8 <;> cases k9 <;> cases k10 <;> cases p <;> cases q <;> cases r <;> cases s <;> cases x1 <;> rfl
def BQ : Nat → DQ → Prop
  | 0, _ => True
  | n + 1, q => q.field.length ≤ 1048576 ∧ q.words.length ≤ 1048576 ∧ (∀ w, w ∈ q.words → w.length ≤ 1048576) ∧ q.kids.length ≤ 1048576 ∧ ∀ c, c ∈ q.kids → BQ n c
theorem l11Deep_spec (N : Nat) (hM : Sm < N) (hN : N ≤ 1099511627776) : ∀ (n D : Nat), n < D → n ≤ 1000 → ∀ q, BQ n q → s_l11Deep_m N D q.kind q.field q.words q.lo q.hi q.kids (n : Int) = some (okQ n q)
  | 0, D + 1, _, _, q, _ => by
    rw [s_l11Deep_m, decide_eq_true (by rfl), cond_true]
    rfl
  | n + 1, D + 1, hD, hn, q, hq => by
    have hM' : 1048576 < N := hM
    have ih := l11Deep_spec N hM hN n D (by omega) (by omega)
    obtain ⟨k, f, ws, a, b, kids⟩ := q
    obtain ⟨h1, h2, h3, h4, h5⟩ := hq
    dsimp only [DQ.kind, DQ.field, DQ.words, DQ.lo, DQ.hi, DQ.kids] at h1 h2 h3 h4 h5 ⊢
    rw [s_l11Deep_m, decide_eq_false (by omega), cond_false, l11One_spec N hM hN k f ws a b kids h1 h2 h3, Option.bind_some, okQ]
    have e : ((n + 1 : Nat) : Int) - 1 = (n : Int) := by omega
    cases hb : oneQ k f ws a b kids
    · rfl
    · rw [Bool.not_true, cond_false, Bool.true_and]
      refine Eq.trans (check_list _ kids (fun i => (((n + 1 : Nat) : Int), (i : Int), k, f, ws, a, b, kids)) (okQ n) (some false) (some true) (fun go => ?_) (fun go i hi => ?_) N (by omega)) ?_
      · dsimp only
        rw [decide_eq_false (Int.lt_irrefl _), cond_false]
      · dsimp only
        have hm := List.getElem_mem hi
        rw [decide_eq_true (by omega : (i : Int) < (kids.length : Int)), cond_true, idx_at hi, Option.bind_some, e, if_pos (by unfold fits; omega), ih _ (h5 _ hm), Option.bind_some, if_pos (fits_nat (n := i) (by omega)), cast_succ']
        cases okQ n kids[i] <;> rfl
      · cases kids.all (okQ n) <;> rfl
end Go.Proofs.YtokkfonfajgomaaDoor
