/- Plain laws: words, documents and keys that are ok; which document is ahead. -/
import Derived.Test.YtjggioppicabbaaFS
set_option linter.unusedVariables false
set_option linter.unusedSimpArgs false
namespace Go.Proofs.Ytjggioppicabbaa
open Go.RowKit
/-! ### loops that check -/
theorem check_loop {δ : Type} (F : (δ → Option Bool) → δ → Option Bool) (len : Nat) (st : Nat → δ) (chk : Nat → Bool) (fin : Bool) (hend : ∀ go, F go (st len) = some fin)
    (hstep : ∀ go n, n < len → F go (st n) = bif chk n then go (st (n + 1)) else some false) (N : Nat) (h : len < N) : iter F N (st 0) = some (((List.range' 0 len).all chk) && fin) := by
  have key := iter_scan F len st (fun n => some (((List.range' n (len - n)).all chk) && fin)) (fun go => by rw [hend, Nat.sub_self]; simp) (fun go n hn hgo => ?_) N 0 (Nat.zero_le _) (by omega)
  · simpa using key
  · rw [hstep go n hn, hgo, show len - n = (len - (n + 1)) + 1 from by omega, List.range'_succ, List.all_cons]
    cases chk n <;> simp
/-- Everywhere. -/
def allN (len : Nat) (chk : Nat → Bool) : Bool := (List.range' 0 len).all chk
/-! ### texts in order -/
theorem bytesLess_or : ∀ (x y : List UInt8), (Op.bytesLess x y || decide (x = y)) = !Op.bytesLess y x
  | [], [] => by simp [Op.bytesLess]
  | _ :: _, [] => by simp [Op.bytesLess]
  | [], _ :: _ => by simp [Op.bytesLess]
  | a :: x, b :: y => by
    have ih := bytesLess_or x y
    simp only [Op.bytesLess]
    rcases Nat.lt_trichotomy a.toNat b.toNat with h | h | h
    · have h1 : a < b := UInt8.lt_iff_toNat_lt.2 h
      have h2 : ¬ b < a := fun e => by have := UInt8.lt_iff_toNat_lt.1 e; omega
      have h3 : ¬ b = a := fun e => by rw [e] at h; omega
      simp [h1, h2, h3]
    · have h1 : a = b := UInt8.toNat_inj.1 h
      subst h1
      have h2 : ¬ a < a := fun e => by have := UInt8.lt_iff_toNat_lt.1 e; omega
      simpa [h2] using ih
    · have h1 : b < a := UInt8.lt_iff_toNat_lt.2 h
      have h2 : ¬ a < b := fun e => by have := UInt8.lt_iff_toNat_lt.1 e; omega
      have h3 : ¬ a = b := fun e => by rw [e] at h; omega
      simp [h1, h2, h3]
/-! ### words -/
def wB (n : Int) : Bool := (decide (97 ≤ n) && decide (n ≤ 122)) || (decide (48 ≤ n) && decide (n ≤ 57))
theorem wordByte_spec (N : Nat) (n : Int) : i_wordByte_m N n = some (wB n) := by
  unfold i_wordByte_m wB
  cases decide (97 ≤ n) <;> cases decide (n ≤ 122) <;> cases decide (48 ≤ n) <;> cases decide (n ≤ 57) <;> rfl
theorem fold_all : ∀ n : Nat, n < 256 → (match s_l1Fold_m 0 (n : Int) with | some r => (decide (r = (n : Int)) && !decide ((n : Int) = 0)) == wB n | none => false) = true := by decide +kernel
theorem fold_spec (N : Nat) (c : UInt8) : ∃ r, s_l1Fold_m N (c.toNat : Int) = some r ∧ (decide (r = (c.toNat : Int)) && !decide ((c.toNat : Int) = 0)) = wB c.toNat := by
  have h := fold_all c.toNat (UInt8.toNat_lt c)
  have e : s_l1Fold_m N (c.toNat : Int) = s_l1Fold_m 0 (c.toNat : Int) := rfl
  rw [e]
  cases hr : s_l1Fold_m 0 (c.toNat : Int) with
  | none => rw [hr] at h; cases h
  | some r => rw [hr] at h; exact ⟨r, rfl, by simpa using h⟩
def atB (s : List UInt8) (n : Nat) : Int := ((s[n]?.getD 0).toNat : Int)
theorem atB_eq {s : List UInt8} {n : Nat} (h : n < s.length) : (s[n].toNat : Int) = atB s n := by unfold atB; rw [List.getElem?_eq_getElem h]; rfl
theorem within_spec (N : Nat) (n a b : Int) : i_within_m N n a b = some (decide (a ≤ n) && decide (n ≤ b)) := by
  unfold i_within_m; cases decide (a ≤ n) <;> rfl
theorem l1In_spec (N : Nat) (n a b : Int) : s_l1In_m N n a b = some (decide (a ≤ n) && decide (n ≤ b)) := by
  unfold s_l1In_m; cases decide (a ≤ n) <;> rfl
def okW (s : List UInt8) : Bool := allN s.length (fun n => wB (atB s n)) && (decide ((1 : Int) ≤ s.length) && decide ((s.length : Int) ≤ 12))
theorem wordOk_spec (N : Nat) (s : List UInt8) (h : s.length < N) (hN : N ≤ 1099511627776) : i_WordOk_m N s = some (okW s) := by
  unfold i_WordOk_m
  refine check_loop _ s.length (fun n => (s, (s.length : Int), (n : Int))) (fun n => wB (atB s n)) _ (fun go => ?_) (fun go n hn => ?_) N h
  · dsimp only
    rw [decide_eq_false (Int.lt_irrefl _), cond_false, within_spec, Option.bind_some]
  · dsimp only
    rw [decide_eq_true (by omega : (n : Int) < (s.length : Int)), cond_true, idx_at hn, Option.bind_some, wordByte_spec, Option.bind_some, atB_eq hn, if_pos (fits_nat (n := n) (by omega)), cast_succ']
    cases wB (atB s n) <;> rfl
theorem l1WordOk_spec (N : Nat) (s : List UInt8) (h : s.length < N) (hN : N ≤ 1099511627776) : s_l1WordOk_m N s = some (okW s) := by
  unfold s_l1WordOk_m
  refine check_loop _ s.length (fun n => (s, (n : Int))) (fun n => wB (atB s n)) _ (fun go => ?_) (fun go n hn => ?_) N h
  · dsimp only
    rw [decide_eq_false (Int.lt_irrefl _), cond_false, l1In_spec, Option.bind_some]
  · dsimp only
    obtain ⟨r, h1, h2⟩ := fold_spec N s[n]
    rw [decide_eq_true (by omega : (n : Int) < (s.length : Int)), cond_true, idx_at hn, Option.bind_some, h1, Option.bind_some, Option.bind_some, Option.bind_some, if_pos (fits_nat (n := n) (by omega)), cast_succ', ← atB_eq hn, ← h2]
    cases decide (r = (s[n].toNat : Int)) <;> cases decide ((s[n].toNat : Int) = 0) <;> rfl
def okT (s : List UInt8) : Bool := allN s.length (fun n => !decide (atB s n < 32) && !decide (126 < atB s n)) && decide ((s.length : Int) ≤ 160)
theorem textOk_spec (N : Nat) (s : List UInt8) (h : s.length < N) (hN : N ≤ 1099511627776) : i_TextOk_m N s = some (okT s) := by
  unfold i_TextOk_m
  refine check_loop _ s.length (fun n => (s, (s.length : Int), (n : Int))) (fun n => !decide (atB s n < 32) && !decide (126 < atB s n)) _ (fun go => ?_) (fun go n hn => ?_) N h
  · dsimp only
    rw [decide_eq_false (Int.lt_irrefl _), cond_false]
  · dsimp only
    rw [decide_eq_true (by omega : (n : Int) < (s.length : Int)), cond_true, idx_at hn, Option.bind_some, Option.bind_some, atB_eq hn, if_pos (fits_nat (n := n) (by omega)), cast_succ']
    cases decide (atB s n < 32) <;> cases decide (126 < atB s n) <;> rfl
theorem l1Text_spec (N : Nat) (s : List UInt8) (h : s.length < N) (hN : N ≤ 1099511627776) : s_l1Text_m N s = some (okT s) := by
  unfold s_l1Text_m
  refine check_loop _ s.length (fun n => (s, (n : Int))) (fun n => !decide (atB s n < 32) && !decide (126 < atB s n)) _ (fun go => ?_) (fun go n hn => ?_) N h
  · dsimp only
    rw [decide_eq_false (Int.lt_irrefl _), cond_false]
  · dsimp only
    rw [decide_eq_true (by omega : (n : Int) < (s.length : Int)), cond_true, idx_at hn, Option.bind_some, Option.bind_some, atB_eq hn, if_pos (fits_nat (n := n) (by omega)), cast_succ']
    cases decide (atB s n < 32) <;> cases decide (126 < atB s n) <;> rfl
/-! ### documents -/
def ahd (p e : List UInt8) : Bool := Op.bytesLess p e
def fAt (xs : List EField) (n : Nat) : EField := xs[n]?.getD ([], [])
def aAt (xs : List EAttr) (n : Nat) : EAttr := xs[n]?.getD ([], 0)
theorem fAt_eq {xs : List EField} {n : Nat} (h : n < xs.length) : xs[n] = fAt xs n := by unfold fAt; rw [List.getElem?_eq_getElem h]; rfl
theorem aAt_eq {xs : List EAttr} {n : Nat} (h : n < xs.length) : xs[n] = aAt xs n := by unfold aAt; rw [List.getElem?_eq_getElem h]; rfl
def okF (xs : List EField) (n : Nat) : Bool := okW (fAt xs n).1 && okT (fAt xs n).2 && (decide (n = 0) || ahd (fAt xs (n - 1)).1 (fAt xs n).1)
def okA (xs : List EAttr) (n : Nat) : Bool := okW (aAt xs n).1 && (decide (0 ≤ (aAt xs n).2) && decide ((aAt xs n).2 ≤ 999999999)) && (decide (n = 0) || ahd (aAt xs (n - 1)).1 (aAt xs n).1)
def okDoc (x : EDoc) : Bool := (decide (1 ≤ x.1) && decide (x.1 ≤ 9999)) && decide ((x.2.1.length : Int) ≤ 3) && decide ((x.2.2.length : Int) ≤ 3) && allN x.2.1.length (okF x.2.1) && allN x.2.2.length (okA x.2.2)
theorem docOk_spec (N : Nat) (hM : Sm < N) (hN : N ≤ 1099511627776) (d : Int) (fs : List EField) (ats : List EAttr) (ho : okD Sm TDoc (d, fs, ats)) : i_DocOk_m N d fs ats = some (okDoc (d, fs, ats)) := by
  have hfl : List.length fs ≤ 1048576 := ho.2.1.1
  have hal : List.length ats ≤ 1048576 := ho.2.2.1
  have hM' : 1048576 < N := hM
  unfold i_DocOk_m
  rw [within_spec, Option.bind_some]
  unfold okDoc
  dsimp only
  cases h1 : (decide (1 ≤ d) && decide (d ≤ 9999)) with
  | false => rfl
  | true =>
    rw [Bool.not_true, cond_false, Bool.true_and]
    by_cases h2 : (3 : Int) < (fs.length : Int)
    · rw [decide_eq_true h2, cond_true, decide_eq_false (by omega : ¬ (fs.length : Int) ≤ 3)]; rfl
    rw [decide_eq_false h2, cond_false, decide_eq_true (by omega : (fs.length : Int) ≤ 3), Bool.true_and]
    by_cases h3 : (3 : Int) < (ats.length : Int)
    · rw [decide_eq_true h3, cond_true, decide_eq_false (by omega : ¬ (ats.length : Int) ≤ 3)]; rfl
    rw [decide_eq_false h3, cond_false, decide_eq_true (by omega : (ats.length : Int) ≤ 3), Bool.true_and]
    refine check_loop _ fs.length (fun n => (fs, (fs.length : Int), (n : Int), d, fs, ats)) (okF fs) _ (fun go => ?_) (fun go n hn => ?_) N (by omega)
    · dsimp only
      rw [decide_eq_false (Int.lt_irrefl _), cond_false]
      refine (check_loop _ ats.length (fun n => (ats, (ats.length : Int), (n : Int), d, fs, ats)) (okA ats) true (fun go => ?_) (fun go n hn => ?_) N (by omega)).trans (by rw [Bool.and_true]; rfl)
      · dsimp only
        rw [decide_eq_false (Int.lt_irrefl _), cond_false]
      · dsimp only
        have hx := ho.2.2.2 ats[n] (List.getElem_mem hn)
        have hx1 : List.length ats[n].1 ≤ 1048576 := hx.1
        rw [decide_eq_true (by omega : (n : Int) < (ats.length : Int)), cond_true, idx_at hn, Option.bind_some, wordOk_spec N _ (by omega) hN, Option.bind_some, within_spec, Option.bind_some, if_pos (fits_nat (n := n) (by omega)), cast_succ']
        unfold okA ahd
        rw [← aAt_eq hn]
        cases okW ats[n].1 with
        | false => rfl
        | true =>
          cases (decide (0 ≤ ats[n].2) && decide (ats[n].2 ≤ 999999999)) with
          | false => rfl
          | true =>
            rw [Bool.not_true, cond_false, cond_false, Bool.true_and, Bool.true_and]
            cases n with
            | zero => rfl
            | succ n =>
              rw [decide_eq_true (by omega : (0 : Int) < ((n + 1 : Nat) : Int)), cond_true, if_pos (by unfold fits; omega), show (((n + 1 : Nat) : Int) - 1) = (n : Int) from by omega, idx_at (by omega), Option.bind_some, aAt_eq (n := n) (by omega), decide_eq_false (by omega : ¬ n + 1 = 0), Bool.false_or, Nat.add_sub_cancel]
              cases Op.bytesLess (aAt ats n).1 ats[n + 1].1 <;> rfl
    · dsimp only
      have hx := ho.2.1.2 fs[n] (List.getElem_mem hn)
      have hx1 : List.length fs[n].1 ≤ 1048576 := hx.1
      have hx2 : List.length fs[n].2 ≤ 1048576 := hx.2
      rw [decide_eq_true (by omega : (n : Int) < (fs.length : Int)), cond_true, idx_at hn, Option.bind_some, wordOk_spec N _ (by omega) hN, Option.bind_some, textOk_spec N _ (by omega) hN, Option.bind_some, if_pos (fits_nat (n := n) (by omega)), cast_succ']
      unfold okF ahd
      rw [← fAt_eq hn]
      cases okW fs[n].1 with
      | false => rfl
      | true =>
        cases okT fs[n].2 with
        | false => rfl
        | true =>
          rw [Bool.not_true, cond_false, cond_false, Bool.true_and, Bool.true_and]
          cases n with
          | zero => rfl
          | succ n =>
            rw [decide_eq_true (by omega : (0 : Int) < ((n + 1 : Nat) : Int)), cond_true, if_pos (by unfold fits; omega), show (((n + 1 : Nat) : Int) - 1) = (n : Int) from by omega, idx_at (by omega), Option.bind_some, fAt_eq (n := n) (by omega), decide_eq_false (by omega : ¬ n + 1 = 0), Bool.false_or, Nat.add_sub_cancel]
            cases Op.bytesLess (fAt fs n).1 fs[n + 1].1 <;> rfl
end Go.Proofs.Ytjggioppicabbaa
