import Derived.Test.YtjggioppicabbaaFS
import Derived.Test.YtjggioppicabbaaQ3
/- Plain laws: words, documents and keys that are ok; which document is ahead. -/
set_option linter.unusedVariables false
set_option linter.unusedSimpArgs false
namespace Go.Proofs.Ytjggioppicabbaa
open Go.RowKit
/-! ### loops that check -/
theorem check_loop {δ : Type} (F : (δ → Option Bool) → δ → Option Bool) (len : Nat) (st : Nat → δ) (chk : Nat → Bool) (fin : Bool) (hend : ∀ go, F go (st len) = some fin)
    (hstep : ∀ go n, n < len → F go (st n) = bif chk n then go (st (n + 1)) else some false) (N : Nat) (h : len < N) : iter F N (st 0) = some (((List.range' 0 len).all chk) && fin) := by
  have key := iter_scan F len st (fun n => some (((List.range' n (len - n)).all chk) && fin)) (fun go => by rw [hend, Nat.sub_self]; simp) (fun go n hn hgo => ?_) N 0 (Nat.zero_le _) (by omega)
  · simpa using key
  · rw [hstep go n hn, hgo, show len - n = (len - (n + 1)) + 1 from by omega, List.range'_succ, List.all_cons]
    cases chk n <;> simp
/-- Everywhere. -/
def allN (len : Nat) (chk : Nat → Bool) : Bool := (List.range' 0 len).all chk
/-! ### texts in order -/
theorem bytesLess_or : ∀ (x y : List UInt8), (Op.bytesLess x y || decide (x = y)) = !Op.bytesLess y x
  | [], [] => by simp [Op.bytesLess]
  | _ :: _, [] => by simp [Op.bytesLess]
  | [], _ :: _ => by simp [Op.bytesLess]
  | a :: x, b :: y => by
    have ih := bytesLess_or x y
    simp only [Op.bytesLess]
    rcases Nat.lt_trichotomy a.toNat b.toNat with h | h | h
    · have h1 : a < b := UInt8.lt_iff_toNat_lt.2 h
      have h2 : ¬ b < a := fun e => by have := UInt8.lt_iff_toNat_lt.1 e; omega
      have h3 : ¬ b = a := fun e => by rw [e] at h; omega
      simp [h1, h2, h3]
    · have h1 : a = b := UInt8.toNat_inj.1 h
      subst h1
      have h2 : ¬ a < a := fun e => by have := UInt8.lt_iff_toNat_lt.1 e; omega
      simpa [h2] using ih
    · have h1 : b < a := UInt8.lt_iff_toNat_lt.2 h
      have h2 : ¬ a < b := fun e => by have := UInt8.lt_iff_toNat_lt.1 e; omega
      have h3 : ¬ a = b := fun e => by rw [e] at h; omega
      simp [h1, h2, h3]
/-! ### words -/
def wB (n : Int) : Bool := (decide (97 ≤ n) && decide (n ≤ 122)) || (decide (48 ≤ n) && decide (n ≤ 57))
theorem wordByte_spec (N : Nat) (n : Int) : i_wordByte_m N n = some (wB n) := by
  unfold i_wordByte_m wB
  cases decide (97 ≤ n) <;> cases decide (n ≤ 122) <;> cases decide (48 ≤ n) <;> cases decide (n ≤ 57) <;> rfl
theorem fold_all : ∀ n : Nat, n < 256 → (match s_l1Fold_m 0 (n : Int) with | some r => (decide (r = (n : Int)) && !decide ((n : Int) = 0)) == wB n | none => false) = true := by decide +kernel
theorem fold_spec (N : Nat) (c : UInt8) : ∃ r, s_l1Fold_m N (c.toNat : Int) = some r ∧ (decide (r = (c.toNat : Int)) && !decide ((c.toNat : Int) = 0)) = wB c.toNat := by
  have h := fold_all c.toNat (UInt8.toNat_lt c)
  have e : s_l1Fold_m N (c.toNat : Int) = s_l1Fold_m 0 (c.toNat : Int) := rfl
  rw [e]
  cases hr : s_l1Fold_m 0 (c.toNat : Int) with
  | none => rw [hr] at h; cases h
  | some r => rw [hr] at h; exact ⟨r, rfl, by simpa using h⟩
def atB (s : List UInt8) (n : Nat) : Int := ((s[n]?.getD 0).toNat : Int)
theorem atB_eq {s : List UInt8} {n : Nat} (h : n < s.length) : (s[n].toNat : Int) = atB s n := by unfold atB; rw [List.getElem?_eq_getElem h]; rfl
theorem within_spec (N : Nat) (n a b : Int) : i_within_m N n a b = some (decide (a ≤ n) && decide (n ≤ b)) := by
  unfold i_within_m; cases decide (a ≤ n) <;> rfl
theorem l1In_spec (N : Nat) (n a b : Int) : s_l1In_m N n a b = some (decide (a ≤ n) && decide (n ≤ b)) := by
  unfold s_l1In_m; cases decide (a ≤ n) <;> rfl
def okW (s : List UInt8) : Bool := allN s.length (fun n => wB (atB s n)) && (decide ((1 : Int) ≤ s.length) && decide ((s.length : Int) ≤ 12))
theorem wordOk_spec (N : Nat) (s : List UInt8) (h : s.length < N) (hN : N ≤ 1099511627776) : i_WordOk_m N s = some (okW s) := by
  unfold i_WordOk_m
  refine check_loop _ s.length (fun n => (s, (s.length : Int), (n : Int))) (fun n => wB (atB s n)) _ (fun go => ?_) (fun go n hn => ?_) N h
  · dsimp only
    rw [decide_eq_false (Int.lt_irrefl _), cond_false, within_spec, Option.bind_some]
  · dsimp only
    rw [decide_eq_true (by omega : (n : Int) < (s.length : Int)), cond_true, idx_at hn, Option.bind_some, wordByte_spec, Option.bind_some, atB_eq hn, if_pos (fits_nat (n := n) (by omega)), cast_succ']
    cases wB (atB s n) <;> rfl
theorem l1WordOk_spec (N : Nat) (s : List UInt8) (h : s.length < N) (hN : N ≤ 1099511627776) : s_l1WordOk_m N s = some (okW s) := by
  unfold s_l1WordOk_m
  refine check_loop _ s.length (fun n => (s, (n : Int))) (fun n => wB (atB s n)) _ (fun go => ?_) (fun go n hn => ?_) N h
  · dsimp only
    rw [decide_eq_false (Int.lt_irrefl _), cond_false, l1In_spec, Option.bind_some]
  · dsimp only
    obtain ⟨r, h1, h2⟩ := fold_spec N s[n]
    rw [decide_eq_true (by omega : (n : Int) < (s.length : Int)), cond_true, idx_at hn, Option.bind_some, h1, Option.bind_some, Option.bind_some, Option.bind_some, if_pos (fits_nat (n := n) (by omega)), cast_succ', ← atB_eq hn, ← h2]
    cases decide (r = (s[n].toNat : Int)) <;> cases decide ((s[n].toNat : Int) = 0) <;> rfl
def okT (s : List UInt8) : Bool := allN s.length (fun n => !decide (atB s n < 32) && !decide (126 < atB s n)) && decide ((s.length : Int) ≤ 160)
theorem textOk_spec (N : Nat) (s : List UInt8) (h : s.length < N) (hN : N ≤ 1099511627776) : i_TextOk_m N s = some (okT s) := by
  unfold i_TextOk_m
  refine check_loop _ s.length (fun n => (s, (s.length : Int), (n : Int))) (fun n => !decide (atB s n < 32) && !decide (126 < atB s n)) _ (fun go => ?_) (fun go n hn => ?_) N h
  · dsimp only
    rw [decide_eq_false (Int.lt_irrefl _), cond_false]
  · dsimp only
    rw [decide_eq_true (by omega : (n : Int) < (s.length : Int)), cond_true, idx_at hn, Option.bind_some, Option.bind_some, atB_eq hn, if_pos (fits_nat (n := n) (by omega)), cast_succ']
    cases decide (atB s n < 32) <;> cases decide (126 < atB s n) <;> rfl
theorem l1Text_spec (N : Nat) (s : List UInt8) (h : s.length < N) (hN : N ≤ 1099511627776) : s_l1Text_m N s = some (okT s) := by
  unfold s_l1Text_m
  refine check_loop _ s.length (fun n => (s, (n : Int))) (fun n => !decide (atB s n < 32) && !decide (126 < atB s n)) _ (fun go => ?_) (fun go n hn => ?_) N h
  · dsimp only
    rw [decide_eq_false (Int.lt_irrefl _), cond_false]
  · dsimp only
    rw [decide_eq_true (by omega : (n : Int) < (s.length : Int)), cond_true, idx_at hn, Option.bind_some, Option.bind_some, atB_eq hn, if_pos (fits_nat (n := n) (by omega)), cast_succ']
    cases decide (atB s n < 32) <;> cases decide (126 < atB s n) <;> rfl
/-! ### documents -/
def ahd (p e : List UInt8) : Bool := Op.bytesLess p e
def fAt (xs : List EField) (n : Nat) : EField := xs[n]?.getD ([], [])
def aAt (xs : List EAttr) (n : Nat) : EAttr := xs[n]?.getD ([], 0)
theorem fAt_eq {xs : List EField} {n : Nat} (h : n < xs.length) : xs[n] = fAt xs n := by unfold fAt; rw [List.getElem?_eq_getElem h]; rfl
theorem aAt_eq {xs : List EAttr} {n : Nat} (h : n < xs.length) : xs[n] = aAt xs n := by unfold aAt; rw [List.getElem?_eq_getElem h]; rfl
def okF (xs : List EField) (n : Nat) : Bool := okW (fAt xs n).1 && okT (fAt xs n).2 && (decide (n = 0) || ahd (fAt xs (n - 1)).1 (fAt xs n).1)
def okA (xs : List EAttr) (n : Nat) : Bool := okW (aAt xs n).1 && (decide (0 ≤ (aAt xs n).2) && decide ((aAt xs n).2 ≤ 999999999)) && (decide (n = 0) || ahd (aAt xs (n - 1)).1 (aAt xs n).1)
def okDoc (x : EDoc) : Bool := (decide (1 ≤ x.1) && decide (x.1 ≤ 9999)) && decide ((x.2.1.length : Int) ≤ 3) && decide ((x.2.2.length : Int) ≤ 3) && allN x.2.1.length (okF x.2.1) && allN x.2.2.length (okA x.2.2)
theorem docOk_spec (N : Nat) (hM : Sm < N) (hN : N ≤ 1099511627776) (d : Int) (fs : List EField) (ats : List EAttr) (ho : okD Sm TDoc (d, fs, ats)) : i_DocOk_m N d fs ats = some (okDoc (d, fs, ats)) := by
  have hfl : List.length fs ≤ 1048576 := ho.2.1.1
  have hal : List.length ats ≤ 1048576 := ho.2.2.1
  have hM' : 1048576 < N := hM
  unfold i_DocOk_m
  rw [within_spec, Option.bind_some]
  unfold okDoc
  dsimp only
  cases h1 : (decide (1 ≤ d) && decide (d ≤ 9999)) with
  | false => rfl
  | true =>
    rw [Bool.not_true, cond_false, Bool.true_and]
    by_cases h2 : (3 : Int) < (fs.length : Int)
    · rw [decide_eq_true h2, cond_true, decide_eq_false (by omega : ¬ (fs.length : Int) ≤ 3)]; rfl
    rw [decide_eq_false h2, cond_false, decide_eq_true (by omega : (fs.length : Int) ≤ 3), Bool.true_and]
    by_cases h3 : (3 : Int) < (ats.length : Int)
    · rw [decide_eq_true h3, cond_true, decide_eq_false (by omega : ¬ (ats.length : Int) ≤ 3)]; rfl
    rw [decide_eq_false h3, cond_false, decide_eq_true (by omega : (ats.length : Int) ≤ 3), Bool.true_and]
    refine check_loop _ fs.length (fun n => (fs, (fs.length : Int), (n : Int), d, fs, ats)) (okF fs) _ (fun go => ?_) (fun go n hn => ?_) N (by omega)
    · dsimp only
      rw [decide_eq_false (Int.lt_irrefl _), cond_false]
      refine (check_loop _ ats.length (fun n => (ats, (ats.length : Int), (n : Int), d, fs, ats)) (okA ats) true (fun go => ?_) (fun go n hn => ?_) N (by omega)).trans (by rw [Bool.and_true]; rfl)
      · dsimp only
        rw [decide_eq_false (Int.lt_irrefl _), cond_false]
      · dsimp only
        have hx := ho.2.2.2 ats[n] (List.getElem_mem hn)
        have hx1 : List.length ats[n].1 ≤ 1048576 := hx.1
        rw [decide_eq_true (by omega : (n : Int) < (ats.length : Int)), cond_true, idx_at hn, Option.bind_some, wordOk_spec N _ (by omega) hN, Option.bind_some, within_spec, Option.bind_some, if_pos (fits_nat (n := n) (by omega)), cast_succ']
        unfold okA ahd
        rw [← aAt_eq hn]
        cases okW ats[n].1 with
        | false => rfl
        | true =>
          cases (decide (0 ≤ ats[n].2) && decide (ats[n].2 ≤ 999999999)) with
          | false => rfl
          | true =>
            rw [Bool.not_true, cond_false, cond_false, Bool.true_and, Bool.true_and]
            cases n with
            | zero => rfl
            | succ n =>
              rw [decide_eq_true (by omega : (0 : Int) < ((n + 1 : Nat) : Int)), cond_true, if_pos (by unfold fits; omega), show (((n + 1 : Nat) : Int) - 1) = (n : Int) from by omega, idx_at (by omega), Option.bind_some, aAt_eq (n := n) (by omega), decide_eq_false (by omega : ¬ n + 1 = 0), Bool.false_or, Nat.add_sub_cancel]
              cases Op.bytesLess (aAt ats n).1 ats[n + 1].1 <;> rfl
    · dsimp only
      have hx := ho.2.1.2 fs[n] (List.getElem_mem hn)
      have hx1 : List.length fs[n].1 ≤ 1048576 := hx.1
      have hx2 : List.length fs[n].2 ≤ 1048576 := hx.2
      rw [decide_eq_true (by omega : (n : Int) < (fs.length : Int)), cond_true, idx_at hn, Option.bind_some, wordOk_spec N _ (by omega) hN, Option.bind_some, textOk_spec N _ (by omega) hN, Option.bind_some, if_pos (fits_nat (n := n) (by omega)), cast_succ']
      unfold okF ahd
      rw [← fAt_eq hn]
      cases okW fs[n].1 with
      | false => rfl
      | true =>
        cases okT fs[n].2 with
        | false => rfl
        | true =>
          rw [Bool.not_true, cond_false, cond_false, Bool.true_and, Bool.true_and]
          cases n with
          | zero => rfl
          | succ n =>
            rw [decide_eq_true (by omega : (0 : Int) < ((n + 1 : Nat) : Int)), cond_true, if_pos (by unfold fits; omega), show (((n + 1 : Nat) : Int) - 1) = (n : Int) from by omega, idx_at (by omega), Option.bind_some, fAt_eq (n := n) (by omega), decide_eq_false (by omega : ¬ n + 1 = 0), Bool.false_or, Nat.add_sub_cancel]
            cases Op.bytesLess (fAt fs n).1 fs[n + 1].1 <;> rfl
end Go.Proofs.Ytjggioppicabbaa

/- Plain laws: both say of the same documents that one is ahead; FnExactSortLess, as it is computed. -/
set_option linter.unusedVariables false
set_option linter.unusedSimpArgs false
namespace Go.Proofs.Ytjggioppicabbaa
open Go.RowKit
theorem not_less (x y : List UInt8) : (!(Op.bytesLess x y || decide (x = y))) = Op.bytesLess y x := by rw [bytesLess_or, Bool.not_not]
theorem l6Ok_spec (N : Nat) (hM : Sm < N) (hN : N ≤ 1099511627776) (d : Int) (fs : List EField) (ats : List EAttr) (ho : okD Sm TDoc (d, fs, ats)) : s_l6Ok_m N d fs ats = some (okDoc (d, fs, ats)) := by
  have hfl : List.length fs ≤ 1048576 := ho.2.1.1
  have hal : List.length ats ≤ 1048576 := ho.2.2.1
  have hM' : 1048576 < N := hM
  unfold s_l6Ok_m
  refine (check_loop _ fs.length (fun n => ((n : Int), d, fs, ats)) (okF fs) (allN ats.length (okA ats) && ((decide (1 ≤ d) && decide (d ≤ 9999)) && decide ((fs.length : Int) ≤ 3) && decide ((ats.length : Int) ≤ 3))) (fun go => ?_) (fun go n hn => ?_) N (by omega)).trans ?_
  · dsimp only
    rw [decide_eq_false (Int.lt_irrefl _), cond_false]
    refine (check_loop _ ats.length (fun n => ((n : Int), d, fs, ats)) (okA ats) ((decide (1 ≤ d) && decide (d ≤ 9999)) && decide ((fs.length : Int) ≤ 3) && decide ((ats.length : Int) ≤ 3)) (fun go => ?_) (fun go n hn => ?_) N (by omega)).trans rfl
    · dsimp only
      rw [decide_eq_false (Int.lt_irrefl _), cond_false, l1In_spec, Option.bind_some, l1In_spec, Option.bind_some, decide_eq_true (by omega : (0 : Int) ≤ (fs.length : Int)), Bool.true_and]
      cases (decide (1 ≤ d) && decide (d ≤ 9999)) <;> cases decide ((fs.length : Int) ≤ 3) <;> rfl
    · dsimp only
      have hx := ho.2.2.2 ats[n] (List.getElem_mem hn)
      have hx1 : List.length ats[n].1 ≤ 1048576 := hx.1
      rw [decide_eq_true (by omega : (n : Int) < (ats.length : Int)), cond_true, idx_at hn, Option.bind_some, l1WordOk_spec N _ (by omega) hN, Option.bind_some, Option.bind_some, l1In_spec, Option.bind_some, Option.bind_some, if_pos (fits_nat (n := n) (by omega)), cast_succ']
      unfold okA ahd
      rw [← aAt_eq hn]
      cases okW ats[n].1 with
      | false => rfl
      | true =>
        cases (decide (0 ≤ ats[n].2) && decide (ats[n].2 ≤ 999999999)) with
        | false => rfl
        | true =>
          rw [Bool.not_true, cond_false, cond_false, Bool.true_and, Bool.true_and]
          cases n with
          | zero => rfl
          | succ n =>
            rw [decide_eq_true (by omega : (0 : Int) < ((n + 1 : Nat) : Int)), cond_true, if_pos (by unfold fits; omega), show (((n + 1 : Nat) : Int) - 1) = (n : Int) from by omega, idx_at (by omega), Option.bind_some, aAt_eq (n := n) (by omega), decide_eq_false (by omega : ¬ n + 1 = 0), Bool.false_or, Nat.add_sub_cancel, bytesLess_or]
            cases Op.bytesLess (aAt ats n).1 ats[n + 1].1 <;> rfl
  · dsimp only
    have hx := ho.2.1.2 fs[n] (List.getElem_mem hn)
    have hx1 : List.length fs[n].1 ≤ 1048576 := hx.1
    have hx2 : List.length fs[n].2 ≤ 1048576 := hx.2
    rw [decide_eq_true (by omega : (n : Int) < (fs.length : Int)), cond_true, idx_at hn, Option.bind_some, l1WordOk_spec N _ (by omega) hN, Option.bind_some, l1Text_spec N _ (by omega) hN, Option.bind_some, if_pos (fits_nat (n := n) (by omega)), cast_succ']
    unfold okF ahd
    rw [← fAt_eq hn]
    cases okW fs[n].1 with
    | false => rfl
    | true =>
      cases okT fs[n].2 with
      | false => rfl
      | true =>
        rw [Bool.not_true, cond_false, cond_false, Bool.true_and, Bool.true_and]
        cases n with
        | zero => rfl
        | succ n =>
          rw [decide_eq_true (by omega : (0 : Int) < ((n + 1 : Nat) : Int)), cond_true, if_pos (by unfold fits; omega), show (((n + 1 : Nat) : Int) - 1) = (n : Int) from by omega, idx_at (by omega), Option.bind_some, fAt_eq (n := n) (by omega), decide_eq_false (by omega : ¬ n + 1 = 0), Bool.false_or, Nat.add_sub_cancel, bytesLess_or]
          cases Op.bytesLess (fAt fs n).1 fs[n + 1].1 <;> rfl
  · have e : ∀ a b c d e : Bool, (a && (b && (c && d && e))) = (c && d && e && a && b) := by decide
    unfold okDoc
    dsimp only
    exact congrArg some (e _ _ _ _ _)
/-! ### keys -/
def kAt (xs : List EKey) (n : Nat) : EKey := xs[n]?.getD ([], false)
theorem kAt_eq {xs : List EKey} {n : Nat} (h : n < xs.length) : xs[n] = kAt xs n := by unfold kAt; rw [List.getElem?_eq_getElem h]; rfl
def okKeys (ks : List EKey) : Bool := allN ks.length (fun n => okW (kAt ks n).1) && decide ((ks.length : Int) ≤ 3)
theorem keysOk_spec (N : Nat) (hM : Sm < N) (hN : N ≤ 1099511627776) (ks : List EKey) (ho : okD Sm (.sl TKey) ks) : i_keysOk_m N ks = some (okKeys ks) := by
  have hfl : List.length ks ≤ 1048576 := ho.1
  have hM' : 1048576 < N := hM
  unfold i_keysOk_m
  refine check_loop _ ks.length (fun n => (ks, ks, (ks.length : Int), (n : Int))) (fun n => okW (kAt ks n).1) _ (fun go => ?_) (fun go n hn => ?_) N (by omega)
  · dsimp only
    rw [decide_eq_false (Int.lt_irrefl _), cond_false]
  · dsimp only
    have hx := ho.2 ks[n] (List.getElem_mem hn)
    have hx1 : List.length ks[n].1 ≤ 1048576 := hx.1
    rw [decide_eq_true (by omega : (n : Int) < (ks.length : Int)), cond_true, idx_at hn, Option.bind_some, wordOk_spec N _ (by omega) hN, Option.bind_some, if_pos (fits_nat (n := n) (by omega)), cast_succ', ← kAt_eq hn]
    cases okW ks[n].1 <;> rfl
theorem l22Keys_spec (N : Nat) (hM : Sm < N) (hN : N ≤ 1099511627776) (ks : List EKey) (ho : okD Sm (.sl TKey) ks) : s_l22Keys_m N ks = some (okKeys ks) := by
  have hfl : List.length ks ≤ 1048576 := ho.1
  have hM' : 1048576 < N := hM
  unfold s_l22Keys_m
  refine check_loop _ ks.length (fun n => (ks, (n : Int))) (fun n => okW (kAt ks n).1) _ (fun go => ?_) (fun go n hn => ?_) N (by omega)
  · dsimp only
    rw [decide_eq_false (Int.lt_irrefl _), cond_false]
  · dsimp only
    have hx := ho.2 ks[n] (List.getElem_mem hn)
    have hx1 : List.length ks[n].1 ≤ 1048576 := hx.1
    rw [decide_eq_true (by omega : (n : Int) < (ks.length : Int)), cond_true, idx_at hn, Option.bind_some, l1WordOk_spec N _ (by omega) hN, Option.bind_some, if_pos (fits_nat (n := n) (by omega)), cast_succ', ← kAt_eq hn]
    cases okW ks[n].1 <;> rfl
/-! ### a number of a document -/
def numFrom (name : List UInt8) : List EAttr → Int
  | [] => -1
  | x :: xs => if x.1 = name then x.2 else numFrom name xs
theorem l6Num_spec (N : Nat) (d : Int) (fs : List EField) (ats : List EAttr) (name : List UInt8) (h : ats.length < N) (hN : N ≤ 1099511627776) : s_l6Num_m N d fs ats name = some (numFrom name ats) := by
  unfold s_l6Num_m
  refine (iter_scan _ ats.length (fun n => (name, (n : Int), d, fs, ats)) (fun n => some (numFrom name (ats.drop n))) (fun go => ?_) (fun go n hn hgo => ?_) N 0 (Nat.zero_le _) (by omega)).trans (by simp)
  · dsimp only
    rw [decide_eq_false (Int.lt_irrefl _), cond_false, List.drop_length]; rfl
  · simp only [cast_succ'] at hgo
    dsimp only
    rw [decide_eq_true (by omega : (n : Int) < (ats.length : Int)), cond_true, idx_at hn, Option.bind_some, Option.bind_some, List.drop_eq_getElem_cons hn, numFrom]
    by_cases hx : ats[n].1 = name
    · rw [decide_eq_true hx, cond_true, if_pos hx]
    · rw [decide_eq_false hx, cond_false, if_pos (fits_nat (n := n) (by omega)), if_neg hx]; exact hgo
theorem docNum_spec (N : Nat) (hM : Sm < N) (hN : N ≤ 1099511627776) (d : Int) (fs : List EField) (ats : List EAttr) (name : List UInt8) (ho : okD Sm TDoc (d, fs, ats)) (hk : okDoc (d, fs, ats) = true) : i_DocNum_m N d fs ats name = some (numFrom name ats) := by
  have hal : List.length ats ≤ 1048576 := ho.2.2.1
  have hM' : 1048576 < N := hM
  unfold i_DocNum_m
  rw [docOk_spec N hM hN d fs ats ho, Option.bind_some, hk, cond_true]
  refine (iter_scan _ ats.length (fun n => (name, ats, (ats.length : Int), (n : Int))) (fun n => some (numFrom name (ats.drop n))) (fun go => ?_) (fun go n hn hgo => ?_) N 0 (Nat.zero_le _) (by omega)).trans (by simp)
  · dsimp only
    rw [decide_eq_false (Int.lt_irrefl _), cond_false, List.drop_length]; rfl
  · simp only [cast_succ'] at hgo
    dsimp only
    rw [decide_eq_true (by omega : (n : Int) < (ats.length : Int)), cond_true, idx_at hn, Option.bind_some, List.drop_eq_getElem_cons hn, numFrom]
    by_cases hx : ats[n].1 = name
    · rw [decide_eq_true hx, cond_true, if_pos hx]
    · rw [decide_eq_false hx, cond_false, if_pos (fits_nat (n := n) (by omega)), if_neg hx]; exact hgo
theorem numFrom_ge (name : List UInt8) : ∀ (ats : List EAttr), (∀ x, x ∈ ats → 0 ≤ x.2) → -1 ≤ numFrom name ats
  | [], _ => by simp [numFrom]
  | x :: xs, h => by
    unfold numFrom
    split
    · have := h x (by simp); omega
    · exact numFrom_ge name xs fun y hy => h y (by simp [hy])
theorem okDoc_parts {x : EDoc} (h : okDoc x = true) : (1 ≤ x.1 ∧ x.1 ≤ 9999) ∧ (∀ y, y ∈ x.2.2 → 0 ≤ y.2) := by
  unfold okDoc at h
  simp only [Bool.and_eq_true, decide_eq_true_eq] at h
  refine ⟨h.1.1.1.1, fun y hy => ?_⟩
  obtain ⟨n, hn, rfl⟩ := List.mem_iff_getElem.1 hy
  have h2 := h.2
  unfold allN at h2
  rw [List.all_eq_true] at h2
  have := h2 n (by simp [List.mem_range'_1]; exact hn)
  unfold okA at this
  rw [← aAt_eq hn] at this
  simp only [Bool.and_eq_true, decide_eq_true_eq] at this
  exact this.1.2.1
/-! ### which is ahead -/
def lessK (a b : EDoc) : List EKey → Bool
  | [] => decide (a.1 < b.1)
  | k :: ks => if numFrom k.1 a.2.2 = numFrom k.1 b.2.2 then lessK a b ks else (!decide (numFrom k.1 a.2.2 = -1) && (decide (numFrom k.1 b.2.2 = -1) || !(decide (numFrom k.1 a.2.2 < numFrom k.1 b.2.2) == k.2)))
theorem docOrder_spec (N : Nat) (hM : Sm < N) (hN : N ≤ 1099511627776) (a b : EDoc) (ks : List EKey) (ha : okD Sm TDoc a) (hb : okD Sm TDoc b) (hk : okD Sm (.sl TKey) ks) (oa : okDoc a = true) (ob : okDoc b = true) :
    Def (i_docOrder_m N a.1 a.2.1 a.2.2 b.1 b.2.1 b.2.2 ks) fun r => decide (r < 0) = lessK a b ks := by
  have hkl : List.length ks ≤ 1048576 := hk.1
  have hM' : 1048576 < N := hM
  have pa := okDoc_parts oa
  have pb := okDoc_parts ob
  unfold i_docOrder_m
  refine Def.upto ks.length (fun n g => lessK a b (ks.drop n) = lessK a b ks ∧ g = (ks, (ks.length : Int), (n : Int), a.1, a.2.1, a.2.2, b.1, b.2.1, b.2.2)) ?_ ?_ N 0 _ (Nat.zero_le _) ⟨rfl, rfl⟩ (by omega)
  · rintro go _ ⟨hl, rfl⟩
    dsimp only
    rw [decide_eq_false (Int.lt_irrefl _), cond_false]
    refine Def.ite (by unfold fits; omega) (Def.ret ?_)
    rw [← hl, List.drop_length]
    unfold lessK
    by_cases h : a.1 < b.1
    · rw [decide_eq_true h, decide_eq_true (by omega)]
    · rw [decide_eq_false h, decide_eq_false (by omega)]
  · rintro go n _ hn ⟨hl, rfl⟩ hgo
    dsimp only
    rw [decide_eq_true (by omega : (n : Int) < (ks.length : Int)), cond_true, idx_at hn, Option.bind_some, docNum_spec N hM hN a.1 a.2.1 a.2.2 _ ha oa, Option.bind_some, docNum_spec N hM hN b.1 b.2.1 b.2.2 _ hb ob, Option.bind_some]
    rw [List.drop_eq_getElem_cons hn, lessK] at hl
    refine Def.dif (fun e => ?_) (fun e => ?_)
    · rw [if_pos e] at hl
      exact Def.ite (fits_nat (n := n) (by omega)) (hgo _ ⟨hl, by rw [cast_succ']⟩)
    rw [if_neg e] at hl
    rw [← hl]
    refine Def.dif (fun e1 => Def.ret ?_) (fun e1 => ?_)
    · rw [decide_eq_true e1]; rfl
    rw [decide_eq_false e1]
    refine Def.dif (fun e2 => Def.ret ?_) (fun e2 => ?_)
    · rw [decide_eq_true e2]; rfl
    rw [decide_eq_false e2]
    refine Def.bif (fun e3 => Def.ret ?_) (fun e3 => Def.ret ?_)
    · rw [e3]; rfl
    · rw [e3]; rfl
theorem l22Less_spec (N : Nat) (hM : Sm < N) (hN : N ≤ 1099511627776) (a b : EDoc) (ks : List EKey) (ha : okD Sm TDoc a) (hb : okD Sm TDoc b) (hk : okD Sm (.sl TKey) ks) (oa : okDoc a = true) (ob : okDoc b = true) :
    Def (s_l22Less_m N a.1 a.2.1 a.2.2 b.1 b.2.1 b.2.2 ks) fun r => r = lessK a b ks := by
  have hkl : List.length ks ≤ 1048576 := hk.1
  have hal : List.length a.2.2 ≤ 1048576 := ha.2.2.1
  have hbl : List.length b.2.2 ≤ 1048576 := hb.2.2.1
  have hM' : 1048576 < N := hM
  have pa := okDoc_parts oa
  have pb := okDoc_parts ob
  unfold s_l22Less_m
  refine Def.upto ks.length (fun n g => lessK a b (ks.drop n) = lessK a b ks ∧ g = (ks, (n : Int), a.1, a.2.1, a.2.2, b.1, b.2.1, b.2.2)) ?_ ?_ N 0 _ (Nat.zero_le _) ⟨rfl, rfl⟩ (by omega)
  · rintro go _ ⟨hl, rfl⟩
    dsimp only
    rw [decide_eq_false (Int.lt_irrefl _), cond_false]
    refine Def.ret ?_
    rw [← hl, List.drop_length]
    rfl
  · rintro go n _ hn ⟨hl, rfl⟩ hgo
    dsimp only
    have ga := numFrom_ge ks[n].1 a.2.2 pa.2
    have gb := numFrom_ge ks[n].1 b.2.2 pb.2
    rw [decide_eq_true (by omega : (n : Int) < (ks.length : Int)), cond_true, idx_at hn, Option.bind_some]
    rw [List.drop_eq_getElem_cons hn, lessK] at hl
    have hcmp : Def (s_l22Cmp_m N a.1 a.2.1 a.2.2 b.1 b.2.1 b.2.2 ks[n].1 ks[n].2) fun r => (r = 0 ↔ numFrom ks[n].1 a.2.2 = numFrom ks[n].1 b.2.2) ∧ (numFrom ks[n].1 a.2.2 ≠ numFrom ks[n].1 b.2.2 → decide (r < 0) = (!decide (numFrom ks[n].1 a.2.2 = -1) && (decide (numFrom ks[n].1 b.2.2 = -1) || !(decide (numFrom ks[n].1 a.2.2 < numFrom ks[n].1 b.2.2) == ks[n].2)))) := by
      unfold s_l22Cmp_m
      rw [l6Num_spec N _ _ _ _ (by omega) hN, Option.bind_some, l6Num_spec N _ _ _ _ (by omega) hN, Option.bind_some]
      generalize numFrom ks[n].1 a.2.2 = x at *
      generalize numFrom ks[n].1 b.2.2 = y at *
      generalize ks[n].2 = dn at *
      refine Def.dif (fun e => Def.ret ⟨by simp [e], fun h => absurd e h⟩) (fun e => ?_)
      refine Def.dif (fun e1 => Def.ret ⟨by simp [e], fun _ => ?_⟩) (fun e1 => ?_)
      · rw [decide_eq_true (by omega : x = -1)]; rfl
      rw [decide_eq_false (by omega : ¬ x = -1)]
      refine Def.dif (fun e2 => Def.ret ⟨by simp [e], fun _ => ?_⟩) (fun e2 => ?_)
      · rw [decide_eq_true (by omega : y = -1)]; rfl
      rw [decide_eq_false (by omega : ¬ y = -1)]
      refine Def.dif (fun e3 => ?_) (fun e3 => ?_)
      · rw [decide_eq_true e3, decide_eq_false (by omega : ¬ y < x)]
        cases dn
        · exact Def.ret ⟨by simp [e], fun _ => rfl⟩
        · exact Def.ret ⟨by simp [e], fun _ => rfl⟩
      · rw [decide_eq_false e3, decide_eq_true (by omega : y < x)]
        cases dn
        · exact Def.ret ⟨by simp [e], fun _ => rfl⟩
        · exact Def.ret ⟨by simp [e], fun _ => rfl⟩
    refine Def.bind hcmp fun r ⟨h1, h2⟩ => ?_
    refine Def.bif (fun e => Def.ret ?_) (fun e => ?_)
    · have e' : ¬ r = 0 := by simpa using e
      have e2 : numFrom ks[n].1 a.2.2 ≠ numFrom ks[n].1 b.2.2 := fun h => e' (h1.2 h)
      rw [← hl, if_neg e2, h2 e2]
    · have e' : r = 0 := by simpa using e
      rw [if_pos (h1.1 e')] at hl
      exact Def.ite (fits_nat (n := n) (by omega)) (hgo _ ⟨hl, by rw [cast_succ']⟩)
def sortLess (a b : EDoc) (ks : List EKey) : Bool := okDoc a && okDoc b && okKeys ks && lessK a b ks
theorem implLess_spec (N : Nat) (hM : Sm < N) (hN : N ≤ 1099511627776) (a b : EDoc) (ks : List EKey) (ha : okD Sm TDoc a) (hb : okD Sm TDoc b) (hk : okD Sm (.sl TKey) ks) : i_SortLess_m N a.1 a.2.1 a.2.2 b.1 b.2.1 b.2.2 ks = some (sortLess a b ks) := by
  refine Def.get ?_
  unfold i_SortLess_m sortLess
  rw [docOk_spec N hM hN a.1 a.2.1 a.2.2 ha, Option.bind_some, docOk_spec N hM hN b.1 b.2.1 b.2.2 hb, Option.bind_some, keysOk_spec N hM hN ks hk, Option.bind_some]
  cases oa : okDoc a with
  | false => exact Def.ret rfl
  | true =>
    cases ob : okDoc b with
    | false => exact Def.ret rfl
    | true =>
      cases ok : okKeys ks with
      | false => exact Def.ret rfl
      | true => exact Def.bind (docOrder_spec N hM hN a b ks ha hb hk oa ob) fun r hr => Def.ret (by rw [hr]; rfl)
theorem specLess_spec (N : Nat) (hM : Sm < N) (hN : N ≤ 1099511627776) (a b : EDoc) (ks : List EKey) (ha : okD Sm TDoc a) (hb : okD Sm TDoc b) (hk : okD Sm (.sl TKey) ks) : s_SortLess_m N a.1 a.2.1 a.2.2 b.1 b.2.1 b.2.2 ks = some (sortLess a b ks) := by
  refine Def.get ?_
  unfold s_SortLess_m sortLess
  rw [l6Ok_spec N hM hN a.1 a.2.1 a.2.2 ha, Option.bind_some, l6Ok_spec N hM hN b.1 b.2.1 b.2.2 hb, Option.bind_some, l22Keys_spec N hM hN ks hk, Option.bind_some]
  cases oa : okDoc a with
  | false => exact Def.ret rfl
  | true =>
    cases ob : okDoc b with
    | false => exact Def.ret rfl
    | true =>
      cases ok : okKeys ks with
      | false => exact Def.ret rfl
      | true => exact Def.bind (l22Less_spec N hM hN a b ks ha hb hk oa ob) fun r hr => Def.ret (by rw [hr]; rfl)
theorem fnExactSortLess_gen (N : Nat) (hM : Sm < N) (hN : N ≤ 1099511627776) (x0 x1 : EDoc) (x2 : List EKey) (o0 : okD BigN TDoc x0) (o1 : okD BigN TDoc x1) (o2 : okD BigN (.sl TKey) x2) : l_FnExactSortLess_m N x0.1 x0.2.1 x0.2.2 x1.1 x1.2.1 x1.2.2 x2 = some true := by
  refine Def.get ?_
  unfold l_FnExactSortLess_m
  refine Def.bind (szDoc_spec N hM x0 1048576 (by omega) (by omega) o0) fun r hr => ?_
  refine Def.dif (fun e => Def.ret rfl) (fun e => ?_)
  rcases hr with hr | ⟨r0, r1, h0⟩
  · omega
  refine Def.bind (szDoc_spec N hM x1 r r0 r1 o1) fun r2 hr2 => ?_
  refine Def.dif (fun e => Def.ret rfl) (fun e => ?_)
  rcases hr2 with hr2 | ⟨s0, s1, h1⟩
  · omega
  refine Def.bind (szKeyS_spec N hM x2 r2 s0 (Int.le_trans s1 r1) o2) fun r3 hr3 => ?_
  refine Def.dif (fun e => Def.ret rfl) (fun e => ?_)
  rcases hr3 with hr3 | ⟨_, _, h2⟩
  · omega
  have e0 := toDoc_spec N hM hN x0 h0
  have e1 := toDoc_spec N hM hN x1 h1
  have e2 := toKeyS_spec N hM hN x2 h2
  have e3 := implLess_spec N hM hN x0 x1 x2 h0 h1 h2
  have e4 := specLess_spec N hM hN x0 x1 x2 h0 h1 h2
  have e5 : l_eqDoc_m N x0.1 x0.2.1 x0.2.2 x0.1 x0.2.1 x0.2.2 = some true := (eqDoc_spec N hM hN x0 x0 h0).trans (by rw [decide_eq_true rfl])
  have e6 : l_eqDoc_m N x1.1 x1.2.1 x1.2.2 x1.1 x1.2.1 x1.2.2 = some true := (eqDoc_spec N hM hN x1 x1 h1).trans (by rw [decide_eq_true rfl])
  have e7 : l_eqKeyS_m N x2 x2 = some true := (eqKeyS_spec N hM hN x2 x2 h2).trans (by rw [decide_eq_true rfl])
  have b1 : (!(sortLess x0 x1 x2 == sortLess x0 x1 x2)) = false := by cases sortLess x0 x1 x2 <;> rfl
  simp only [e0, e1, e2, e3, e4, e5, e6, e7, b1, Option.bind_some, Bool.not_true, cond_false]
  exact Def.ret rfl
theorem fnExactSortLess_law (x0 x1 : EDoc) (x2 : List EKey) (o0 : okD BigN TDoc x0) (o1 : okD BigN TDoc x1) (o2 : okD BigN (.sl TKey) x2) : l_FnExactSortLess_m 1048700 x0.1 x0.2.1 x0.2.2 x1.1 x1.2.1 x1.2.2 x2 = some true :=
  fnExactSortLess_gen 1048700 (by decide) (by decide) x0 x1 x2 o0 o1 o2
end Go.Proofs.Ytjggioppicabbaa

/- Plain laws: documents and keys that are drawn. -/
set_option linter.unusedVariables false
set_option linter.unusedSimpArgs false
namespace Go.Proofs.Ytjggioppicabbaa
open Go.RowKit
theorem raw_def (N : Nat) {b : List Int} {k : Int} {j : Nat} (h : Rdr b k j) (hj : j ≤ 100000) : Def (s_l30Raw_m N b k) fun r => r.1.length ≤ 20 ∧ Rdr r.2.1 r.2.2 (j + 1) := by
  unfold s_l30Raw_m
  refine Def.bind (of_def N (by decide) h (by omega)) fun r ⟨m1, h1⟩ => Def.ret ⟨?_, h1⟩
  exact (by decide : ∀ w, w ∈ ([([99, 97, 116] : List UInt8), ([67, 97, 116, 115] : List UInt8), ([100, 111, 103] : List UInt8), ([100, 111, 103, 115] : List UInt8), ([114, 117, 110] : List UInt8), ([82, 85, 78, 78, 73, 78, 71] : List UInt8), ([116, 104, 101] : List UInt8), ([114, 101, 100] : List UInt8), ([98, 105, 103] : List UInt8), ([110, 101, 119, 32, 121, 111, 114, 107] : List UInt8), ([78, 101, 119, 32, 32, 89, 111, 114, 107] : List UInt8), ([110, 121] : List UInt8), ([102, 111, 120] : List UInt8), ([112, 97, 115, 115, 101, 100] : List UInt8), ([120, 49] : List UInt8), ([97, 118, 101, 114, 121, 118, 101, 114, 121, 108, 111, 110, 103, 119, 111, 114, 100] : List UInt8)] : List (List UInt8)) → w.length ≤ 20) _ m1
theorem text_def (N : Nat) {b : List Int} {k : Int} {j : Nat} (h : Rdr b k j) (hj : j ≤ 10000) (hN : 20 ≤ N) : Def (s_l30Text_m N b k) fun r => r.1.length ≤ 300 ∧ Rdr r.2.1 r.2.2 (j + 30) := by
  unfold s_l30Text_m
  refine Def.bind (pick_def N 9 h (by omega)) fun r ⟨p0, p1, _, h1⟩ => ?_
  have p1 := p1 (by omega)
  refine Def.iter (fun g => ∃ s : List UInt8, ∃ n : Nat, ∃ x y, n ≤ 9 ∧ s.length + 30 * n ≤ 300 ∧ Rdr x y (j + 1 + 2 * (9 - n)) ∧ g = (s, (n : Int), x, y)) (fun g => g.2.1.toNat) ?_ N _ ⟨[], r.1.toNat, _, _, by omega, by simp; omega, h1.le (by omega), by rw [Int.toNat_of_nonneg p0]⟩ (by show r.1.toNat < N; omega)
  rintro go _ ⟨s, n, x, y, hn, hs, hr, rfl⟩ hgo
  dsimp only
  refine Def.dif (fun e => ?_) (fun e => Def.ret ⟨by dsimp only; omega, hr.le (by omega)⟩)
  refine Def.bind (raw_def N hr (by omega)) fun r2 ⟨l2, h2⟩ => ?_
  refine Def.ite (by omega) ?_
  refine Def.bind (of_def N (by decide) h2 (by omega)) fun r3 ⟨m3, h3⟩ => ?_
  have l3 : r3.1.length ≤ 10 := (by decide : ∀ w, w ∈ ([([32] : List UInt8), ([32] : List UInt8), ([44, 32] : List UInt8), ([45] : List UInt8), ([46, 32] : List UInt8)] : List (List UInt8)) → w.length ≤ 10) _ m3
  refine Def.ite (by rw [List.length_append]; omega) (Def.ite (by unfold fits; omega) (hgo _ ⟨(s ++ r2.1) ++ r3.1, n - 1, _, _, by omega, by simp only [List.length_append]; omega, h3.le (by omega), ?_⟩ ?_))
  · rw [show ((n : Int) - 1) = ((n - 1 : Nat) : Int) from by omega]
  · show ((n : Int) - 1).toNat < (n : Int).toNat
    omega
theorem anyText_def (N : Nat) {b : List Int} {k : Int} {j : Nat} (h : Rdr b k j) (hj : j ≤ 10000) (hN : 20 ≤ N) : Def (s_l30AnyText_m N b k) fun r => r.1.length ≤ 1000 ∧ Rdr r.2.1 r.2.2 (j + 40) := by
  unfold s_l30AnyText_m
  refine Def.bind (text_def N h hj hN) fun r ⟨l1, h1⟩ => ?_
  refine Def.bind (pick_def N 12 h1 (by omega)) fun r2 ⟨_, _, _, h2⟩ => ?_
  refine Def.dif (fun e => ?_) (fun e => Def.ret ⟨by dsimp only; omega, h2.le (by omega)⟩)
  refine Def.bind (Def.mono (of_def N (by simp) h2 (by omega)) (Q := fun r3 => r3.1.length ≤ 200 ∧ Rdr r3.2.1 r3.2.2 (j + 40)) ?_) fun r3 ⟨l3, h3⟩ => ?_
  · rintro r3 ⟨m3, h3⟩
    refine ⟨?_, h3.le (by omega)⟩
    simp only [List.mem_cons, List.mem_nil_iff, or_false] at m3
    rcases m3 with m | m | m <;> rw [m] <;> simp
  · exact Def.ite (by omega) (Def.ret ⟨by dsimp only; rw [List.length_append]; omega, h3⟩)
/-- A document that is drawn. -/
structure SmallDoc (fs : List EField) (ats : List EAttr) (n : Nat) : Prop where
  fl : fs.length ≤ n
  al : ats.length ≤ n
  f : ∀ x, x ∈ fs → x.1.length ≤ 1000 ∧ x.2.length ≤ 1000
  a : ∀ x, x ∈ ats → x.1.length ≤ 4 ∧ -1 ≤ x.2 ∧ x.2 ≤ 1000000000
theorem SmallDoc.ok {fs : List EField} {ats : List EAttr} {n : Nat} (h : SmallDoc fs ats n) (hn : n ≤ 1000) {id : Int} (h0 : 0 ≤ id ∧ id ≤ 1000000) : okD Sm TDoc (id, fs, ats) := by
  have e1 : IntKind.i64.min = -9223372036854775808 := by decide
  have e2 : IntKind.i64.max = 9223372036854775807 := by decide
  have hfl := h.fl; have hal := h.al
  refine ⟨⟨by rw [e1]; show _ ≤ id; omega, by rw [e2]; show id ≤ _; omega⟩, ⟨by show fs.length ≤ 1048576; omega, fun x hx => ?_⟩, ⟨by show ats.length ≤ 1048576; omega, fun x hx => ?_⟩⟩
  · have := h.f x hx
    exact ⟨by show x.1.length ≤ 1048576; omega, by show x.2.length ≤ 1048576; omega⟩
  · have := h.a x hx
    exact ⟨by show x.1.length ≤ 1048576; omega, by rw [e1]; exact Int.le_trans (by decide) this.2.1, by rw [e2]; exact Int.le_trans this.2.2 (by decide)⟩
theorem SmallDoc.addF {fs : List EField} {ats : List EAttr} {n : Nat} (h : SmallDoc fs ats n) {x : EField} (h1 : x.1.length ≤ 1000) (h2 : x.2.length ≤ 1000) : SmallDoc (fs ++ [x]) ats (n + 1) := by
  have hfl := h.fl; have hal := h.al
  refine ⟨by simp only [List.length_append, List.length_cons, List.length_nil]; omega, by omega, fun y hy => ?_, h.a⟩
  rcases List.mem_append.1 hy with hy | hy
  · exact h.f y hy
  · rw [List.mem_singleton.1 hy]; exact ⟨h1, h2⟩
theorem SmallDoc.addA {fs : List EField} {ats : List EAttr} {n : Nat} (h : SmallDoc fs ats n) {x : EAttr} (h1 : x.1.length ≤ 4) (h2 : -1 ≤ x.2) (h3 : x.2 ≤ 1000000000) : SmallDoc fs (ats ++ [x]) (n + 1) := by
  have hfl := h.fl; have hal := h.al
  refine ⟨by omega, by simp only [List.length_append, List.length_cons, List.length_nil]; omega, h.f, fun y hy => ?_⟩
  rcases List.mem_append.1 hy with hy | hy
  · exact h.a y hy
  · rw [List.mem_singleton.1 hy]; exact ⟨h1, h2, h3⟩
theorem SmallDoc.le {fs : List EField} {ats : List EAttr} {n m : Nat} (h : SmallDoc fs ats n) (hm : n ≤ m) : SmallDoc fs ats m := ⟨Nat.le_trans h.fl hm, Nat.le_trans h.al hm, h.f, h.a⟩
/-- Names of numbers are short. -/
def shortN (ats : List EAttr) : Prop := ∀ y, y ∈ ats → y.1.length ≤ 4
theorem SmallDoc.short {fs : List EField} {ats : List EAttr} {n : Nat} (h : SmallDoc fs ats n) : shortN ats := fun y hy => (h.a y hy).1
theorem SmallDoc.nil : SmallDoc [] [] 0 := ⟨Nat.le_refl _, Nat.le_refl _, (fun x hx => by cases hx), (fun x hx => by cases hx)⟩
theorem SmallDoc.room {n : Nat} {b : Nat} (hn : n ≤ 1000) (hb : b ≤ 1000) : room n 1 b := by
  have : (n + 1) * b ≤ 1001 * 1000 := Nat.mul_le_mul (by omega) hb
  exact room_of (by omega) (by omega)
theorem doc_def (N : Nat) (id : Int) {b : List Int} {k : Int} {j : Nat} (h : Rdr b k j) (hj : j ≤ 5000) (hN : 20 ≤ N) : Def (s_l30Doc_m N id b k) fun r => r.1 = id ∧ SmallDoc r.2.1 r.2.2.1 4 ∧ Rdr r.2.2.2.1 r.2.2.2.2 (j + 100) := by
  unfold s_l30Doc_m
  refine Def.meet (fun g => ∃ fs x y, SmallDoc fs [] 1 ∧ Rdr x y (j + 31) ∧ g = (0, id, fs, x, y)) ?_ fun J hJ => ?_
  · rintro _ ⟨fs, x, y, hs, hr, rfl⟩
    dsimp only
    refine Def.meet (fun g => ∃ fs x y, SmallDoc fs [] 2 ∧ Rdr x y (j + 65) ∧ g = (0, id, fs, x, y)) ?_ fun J hJ => ?_
    · rintro _ ⟨fs, x, y, hs, hr, rfl⟩
      dsimp only
      refine Def.meet (fun g => ∃ fs ats x y, SmallDoc fs ats 3 ∧ Rdr x y (j + 70) ∧ g = (0, id, fs, ats, x, y)) ?_ fun J hJ => ?_
      · rintro _ ⟨fs, ats, x, y, hs, hr, rfl⟩
        dsimp only
        refine Def.bind (pick_def N 3 hr (by omega)) fun r7 ⟨_, _, _, h7⟩ => ?_
        refine Def.dif (fun _ => ?_) (fun _ => Def.ret ⟨rfl, hs.le (by omega), h7.le (by omega)⟩)
        refine Def.bind (pick_def N 30 h7 (by omega)) fun r8 ⟨q0, q1, _, h8⟩ => ?_
        have q1 := q1 (by omega)
        have hal := hs.al
        exact Def.ite (by unfold fits; omega) (Def.ite (SmallDoc.room (by omega) (by omega)) (Def.ret ⟨rfl, hs.addA (by simp) (by dsimp only; omega) (by dsimp only; omega), h8.le (by omega)⟩))
      · refine Def.bind (pick_def N 3 hr (by omega)) fun r5 ⟨_, _, _, h5⟩ => ?_
        refine Def.dif (fun _ => ?_) (fun _ => hJ _ ⟨_, _, _, _, hs.le (by omega), h5.le (by omega), rfl⟩)
        refine Def.bind (pick_def N 4 h5 (by omega)) fun r6 ⟨q0, q1, _, h6⟩ => ?_
        have q1 := q1 (by omega)
        exact Def.ite (SmallDoc.room (by simp) (by omega)) (hJ _ ⟨_, _, _, _, hs.addA (x := (([114, 97, 116, 101] : List UInt8), r6.1)) (by simp) (by dsimp only; omega) (by dsimp only; omega), h6.le (by omega), rfl⟩)
    · refine Def.bind (pick_def N 3 hr (by omega)) fun r3 ⟨_, _, _, h3⟩ => ?_
      refine Def.dif (fun _ => ?_) (fun _ => hJ _ ⟨_, _, _, hs.le (by omega), h3.le (by omega), rfl⟩)
      refine Def.bind (text_def N h3 (by omega) hN) fun r4 ⟨l4, h4⟩ => ?_
      have hfl := hs.fl
      exact Def.ite (SmallDoc.room (by omega) (by omega)) (hJ _ ⟨_, _, _, hs.addF (x := (([116, 105, 116, 108, 101] : List UInt8), r4.1)) (by simp) (by dsimp only; omega), h4.le (by omega), rfl⟩)
  · refine Def.bind (pick_def N 6 h (by omega)) fun r ⟨_, _, _, h1⟩ => ?_
    refine Def.dif (fun _ => ?_) (fun _ => hJ _ ⟨_, _, _, SmallDoc.nil.le (by omega), h1.le (by omega), rfl⟩)
    refine Def.bind (text_def N h1 (by omega) hN) fun r2 ⟨l2, h2⟩ => ?_
    exact Def.ite (SmallDoc.room (by simp) (by omega)) (hJ _ ⟨_, _, _, SmallDoc.nil.addF (x := (([98, 111, 100, 121] : List UInt8), r2.1)) (by simp) (by dsimp only; omega), h2.le (by omega), rfl⟩)
theorem anyDoc_def (N : Nat) {b : List Int} {k : Int} {j : Nat} (h : Rdr b k j) (hj : j ≤ 4000) (hN : 20 ≤ N) : Def (s_l30AnyDoc_m N b k) fun r => (okD Sm TDoc (r.1, r.2.1, r.2.2.1) ∧ shortN r.2.2.1) ∧ Rdr r.2.2.2.1 r.2.2.2.2 (j + 200) := by
  unfold s_l30AnyDoc_m
  refine Def.bind (pick_def N 9 h (by omega)) fun r ⟨p0, p1, _, h1⟩ => ?_
  have p1 := p1 (by omega)
  refine Def.ite (by unfold fits; omega) ?_
  refine Def.bind (doc_def N _ h1 (by omega) hN) fun r2 ⟨e2, s2, h2⟩ => ?_
  have hid : 0 ≤ r2.1 ∧ r2.1 ≤ 1000000 := by rw [e2]; omega
  have hfl := s2.fl; have hal := s2.al
  refine Def.bind (pick_def N 14 h2 (by omega)) fun r3 ⟨_, _, _, h3⟩ => ?_
  refine Def.dif (fun _ => ?_) (fun _ => ?_)
  · refine Def.bind (one_def N (by simp) h3 (by omega)) fun r4 ⟨m4, h4⟩ => Def.ret ⟨⟨s2.ok (by omega) ?_, s2.short⟩, h4.le (by omega)⟩
    simp only [List.mem_cons, List.mem_nil_iff, or_false] at m4
    omega
  refine Def.dif (fun _ => Def.ite (SmallDoc.room (by omega) (by omega)) (Def.ret ⟨⟨(s2.addF (x := (([98, 111, 100, 121] : List UInt8), ([97, 103, 97, 105, 110] : List UInt8))) (by simp) (by simp)).ok (by omega) hid, s2.short⟩, h3.le (by omega)⟩)) (fun _ => ?_)
  refine Def.dif (fun _ => ?_) (fun _ => ?_)
  · refine Def.bind (one_def N (by simp) h3 (by omega)) fun r5 ⟨m5, h5⟩ => ?_
    simp only [List.mem_cons, List.mem_nil_iff, or_false] at m5
    exact Def.ite (SmallDoc.room (by omega) (by omega)) (Def.ret ⟨⟨(s2.addA (x := (([122, 122] : List UInt8), r5.1)) (by simp) (by dsimp only; omega) (by dsimp only; omega)).ok (by omega) hid, (s2.addA (x := (([122, 122] : List UInt8), r5.1)) (by simp) (by dsimp only; omega) (by dsimp only; omega)).short⟩, h5.le (by omega)⟩)
  refine Def.dif (fun _ => ?_) (fun _ => Def.ret ⟨⟨s2.ok (by omega) hid, s2.short⟩, h3.le (by omega)⟩)
  refine Def.bind (anyText_def N h3 (by omega) hN) fun r6 ⟨l6, h6⟩ => ?_
  exact Def.ite (SmallDoc.room (by omega) (by omega)) (Def.ret ⟨⟨(s2.addF (x := (([122, 101, 100] : List UInt8), r6.1)) (by simp) l6).ok (by omega) hid, s2.short⟩, h6.le (by omega)⟩)
theorem keys_def2 (N : Nat) {b : List Int} {k : Int} {j : Nat} (h : Rdr b k j) (hj : j ≤ 10000) (hN : 20 ≤ N) : Def (s_l30Keys_m N b k) fun r => okD Sm (.sl TKey) r.1 ∧ Rdr r.2.1 r.2.2 (j + 20) := by
  unfold s_l30Keys_m
  refine Def.bind (pick_def N 3 h (by omega)) fun r ⟨p0, p1, _, h1⟩ => ?_
  have p1 := p1 (by omega)
  have fin : ∀ out : List EKey, out.length ≤ 10 → (∀ x, x ∈ out → x.1.length ≤ 10) → okD Sm (.sl TKey) out := fun out hl hx => ⟨by show out.length ≤ 1048576; omega, fun x hxm => ⟨by have := hx x hxm; show x.1.length ≤ 1048576; omega, True.intro⟩⟩
  refine Def.iter (fun g => ∃ out : List EKey, ∃ n : Nat, ∃ x y, n ≤ 3 ∧ out.length + n ≤ 5 ∧ (∀ z, z ∈ out → z.1.length ≤ 10) ∧ Rdr x y (j + 1 + 2 * (3 - n)) ∧ g = (out, (n : Int), x, y)) (fun g => g.2.1.toNat) ?_ N _ ⟨[], r.1.toNat, _, _, by omega, by simp; omega, (fun z hz => by cases hz), h1.le (by omega), by rw [Int.toNat_of_nonneg p0]⟩ (by show r.1.toNat < N; omega)
  rintro go _ ⟨out, n, x, y, hn, hl, ho, hr, rfl⟩ hgo
  dsimp only
  refine Def.dif (fun e => ?_) (fun e => ?_)
  · refine Def.bind (of_def N (by decide) hr (by omega)) fun r2 ⟨m2, h2⟩ => ?_
    have l2 : r2.1.length ≤ 10 := (by decide : ∀ w, w ∈ ([([114, 97, 116, 101] : List UInt8), ([121, 101, 97, 114] : List UInt8), ([110, 111, 110, 101] : List UInt8)] : List (List UInt8)) → w.length ≤ 10) _ m2
    refine Def.bind (pick_def N 2 h2 (by omega)) fun r3 ⟨_, _, _, h3⟩ => ?_
    refine Def.ite (SmallDoc.room (by omega) (by omega)) (Def.ite (by unfold fits; omega) (hgo _ ⟨out ++ [(r2.1, decide (r3.1 = 0))], n - 1, _, _, by omega, ?_, fun z hz => ?_, h3.le (by omega), ?_⟩ ?_))
    · simp only [List.length_append, List.length_cons, List.length_nil]; omega
    · rcases List.mem_append.1 hz with hz | hz
      · exact ho z hz
      · rw [List.mem_singleton.1 hz]; exact l2
    · rw [show ((n : Int) - 1) = ((n - 1 : Nat) : Int) from by omega]
    · show ((n : Int) - 1).toNat < (n : Int).toNat
      omega
  · refine Def.bind (pick_def N 12 hr (by omega)) fun r4 ⟨_, _, _, h4⟩ => ?_
    refine Def.dif (fun _ => ?_) (fun _ => Def.ret ⟨fin out (by omega) ho, h4.le (by omega)⟩)
    refine Def.bind (of_def N (by decide) h4 (by omega)) fun r5 ⟨m5, h5⟩ => ?_
    have l5 : r5.1.length ≤ 10 := (by decide : ∀ w, w ∈ ([([] : List UInt8), ([66, 97, 100] : List UInt8)] : List (List UInt8)) → w.length ≤ 10) _ m5
    refine Def.ite (SmallDoc.room (by omega) (by omega)) (Def.ret ⟨fin _ (by simp only [List.length_append, List.length_cons, List.length_nil]; omega) fun z hz => ?_, h5.le (by omega)⟩)
    rcases List.mem_append.1 hz with hz | hz
    · exact ho z hz
    · rw [List.mem_singleton.1 hz]; exact l5
theorem keys_def (N : Nat) {b : List Int} {k : Int} {j : Nat} (h : Rdr b k j) (hj : j ≤ 10000) (hN : 20 ≤ N) : Def (s_l30Keys_m N b k) fun r => okD Sm (.sl TKey) r.1 := (keys_def2 N h hj hN).mono fun r hr => hr.1
theorem drawLess_def (N : Nat) {code : List Int} (hb : Bs code) (hN : 20 ≤ N) : Def (s_DrawSortLess_m N code) fun r => okD Sm TDoc (r.1, r.2.1, r.2.2.1) ∧ okD Sm TDoc (r.2.2.2.1, r.2.2.2.2.1, r.2.2.2.2.2.1) ∧ okD Sm (.sl TKey) r.2.2.2.2.2.2 := by
  unfold s_DrawSortLess_m
  refine Def.bind (open_def N hb) fun r h0 => ?_
  refine Def.bind (anyDoc_def N h0 (by omega) hN) fun r2 ⟨⟨o2, _⟩, h2⟩ => ?_
  refine Def.bind (anyDoc_def N h2 (by omega) hN) fun r3 ⟨⟨o3, _⟩, h3⟩ => ?_
  exact Def.bind (keys_def N h3 (by omega) hN) fun r4 o4 => Def.ret ⟨o2, o3, o4⟩
end Go.Proofs.Ytjggioppicabbaa

/- The law FnSortLess, in plain Lean. -/
set_option linter.unusedVariables false
set_option linter.unusedSimpArgs false
namespace Go.Proofs.Ytjggioppicabbaa
open Go.RowKit
theorem lessK_asym (a b : EDoc) : ∀ ks : List EKey, lessK a b ks = true → lessK b a ks = false
  | [], h => by
    unfold lessK at h ⊢
    simp only [decide_eq_true_eq, decide_eq_false_iff_not] at h ⊢
    omega
  | k :: ks, h => by
    unfold lessK at h ⊢
    by_cases e : numFrom k.1 a.2.2 = numFrom k.1 b.2.2
    · rw [if_pos e] at h
      rw [if_pos e.symm]
      exact lessK_asym a b ks h
    · rw [if_neg e] at h
      rw [if_neg (fun x => e x.symm)]
      generalize numFrom k.1 a.2.2 = x at *
      generalize numFrom k.1 b.2.2 = y at *
      by_cases h1 : x = -1 <;> by_cases h2 : y = -1 <;> by_cases h3 : x < y <;> by_cases h4 : y < x <;> cases hd : k.2 <;> simp_all <;> omega
theorem lessK_total (a b : EDoc) (hab : a.1 ≠ b.1) : ∀ ks : List EKey, lessK a b ks = true ∨ lessK b a ks = true
  | [] => by
    unfold lessK
    simp only [decide_eq_true_eq]
    omega
  | k :: ks => by
    unfold lessK
    by_cases e : numFrom k.1 a.2.2 = numFrom k.1 b.2.2
    · rw [if_pos e, if_pos e.symm]
      exact lessK_total a b hab ks
    · rw [if_neg e, if_neg (fun x => e x.symm)]
      generalize numFrom k.1 a.2.2 = x at *
      generalize numFrom k.1 b.2.2 = y at *
      by_cases h1 : x = -1 <;> by_cases h2 : y = -1 <;> by_cases h3 : x < y <;> by_cases h4 : y < x <;> cases hd : k.2 <;> simp_all <;> omega
theorem lessK_trans (a b d : EDoc) : ∀ ks : List EKey, lessK a b ks = true → lessK b d ks = true → lessK a d ks = true
  | [], h1, h2 => by
    unfold lessK at *
    simp only [decide_eq_true_eq] at *
    omega
  | k :: ks, h1, h2 => by
    have ih := lessK_trans a b d ks
    unfold lessK at h1 h2 ⊢
    generalize lessK a b ks = p1 at *
    generalize lessK b d ks = p2 at *
    generalize lessK a d ks = p3 at *
    generalize numFrom k.1 a.2.2 = x at *
    generalize numFrom k.1 b.2.2 = y at *
    generalize numFrom k.1 d.2.2 = z at *
    by_cases e1 : x = y
    · subst e1
      rw [if_pos rfl] at h1
      by_cases e2 : x = z
      · subst e2
        rw [if_pos rfl] at h2 ⊢
        exact ih h1 h2
      · rw [if_neg e2] at h2 ⊢; exact h2
    · rw [if_neg e1] at h1
      by_cases e2 : y = z
      · subst e2
        rw [if_neg e1]; exact h1
      · rw [if_neg e2] at h2
        have e3 : x ≠ z := by
          rintro rfl
          by_cases g1 : x = -1 <;> by_cases g2 : y = -1 <;> by_cases g3 : x < y <;> by_cases g4 : y < x <;> cases hd : k.2 <;> simp_all <;> omega
        rw [if_neg e3]
        by_cases g1 : x = -1 <;> by_cases g2 : y = -1 <;> by_cases g5 : z = -1 <;> by_cases g3 : x < y <;> by_cases g4 : y < z <;> by_cases g6 : x < z <;> cases hd : k.2 <;> simp_all <;> omega
/-! ### one document in order -/
theorem insert_one (N : Nat) (x : EDoc) (ks : List EKey) (hN : 1 ≤ N) : k_slices_insertionSortCmpFunc_424_m N [x] 0 1 ks = some [x] := by
  obtain ⟨M, rfl⟩ : ∃ M, N = M + 1 := ⟨N - 1, by omega⟩
  rfl
theorem len_def (N : Nat) : ∃ r, k_math_bits_Len_m N 1 = some r := ⟨1, rfl⟩
theorem once_def {δ ρ : Type} {F : (δ → Option ρ) → δ → Option ρ} {P : ρ → Prop} {N : Nat} {g : δ} (h : Def (F (iter F N) g) P) : Def (iter F (N + 1) g) P := h
theorem sortFunc_one (N : Nat) (x : EDoc) (ks : List EKey) (hN : 1 ≤ N) : k_slices_SortFunc_669_m N [x] ks = some [x] := by
  obtain ⟨M, rfl⟩ : ∃ M, N = M + 1 := ⟨N - 1, by omega⟩
  obtain ⟨r, hr⟩ := len_def (M + 1)
  unfold k_slices_SortFunc_669_m
  have e : IntKind.u64.wrap (([x] : List EDoc).length : Int) = 1 := by show IntKind.u64.wrap 1 = 1; decide
  rw [e, hr, Option.bind_some]
  have e2 : k_slices_pdqsortCmpFunc_895_m (M + 1) (M + 1) [x] 0 (([x] : List EDoc).length : Int) r ks = some [x] := by
    unfold k_slices_pdqsortCmpFunc_895_m
    refine Def.get (once_def ?_)
    dsimp only
    refine Def.ite (show fits ((1 : Int) - 0) from by unfold fits; omega) ?_
    refine Def.dif (fun _ => ?_) (fun e => absurd (show (([x] : List EDoc).length : Int) - 0 ≤ 12 from by show (1 : Int) - 0 ≤ 12; omega) e)
    have hi : k_slices_insertionSortCmpFunc_424_m (M + 1) [x] 0 (([x] : List EDoc).length : Int) ks = some [x] := insert_one (M + 1) x ks (by omega)
    rw [hi, Option.bind_some]
    exact Def.ret rfl
  rw [e2, Option.bind_some]
theorem sortOf_one (N : Nat) (hM : Sm < N) (hN : N ≤ 1099511627776) (x : EDoc) (ks : List EKey) (ho : okD Sm TDoc x) (hk : okD Sm (.sl TKey) ks) (hx : okDoc x = true) : Def (i_SortOf_m N [x] ks) fun r => okKeys ks = false → r = [] := by
  have hM' : 1048576 < N := hM
  obtain ⟨M, rfl⟩ : ∃ M, N = M + 2 := ⟨N - 2, by omega⟩
  have hd : i_DocsOk_m (M + 2) [x] = some true := by
    unfold i_DocsOk_m
    refine (check_loop _ 1 (fun n => ([x], [x], 1, (n : Int))) (fun _ => true) true (fun go => ?_) (fun go n hn => ?_) (M + 2) (by omega)).trans (by rfl)
    · rfl
    · obtain rfl : n = 0 := by omega
      dsimp only
      rw [decide_eq_true (by omega : ((0 : Nat) : Int) < 1), cond_true]
      have hi : idx [x] ((0 : Nat) : Int) = some x := rfl
      rw [hi, Option.bind_some, docOk_spec (M + 2) hM hN x.1 x.2.1 x.2.2 ho, hx, Option.bind_some]
      rfl
  unfold i_SortOf_m
  rw [hd, Option.bind_some, Bool.not_true, cond_false, keysOk_spec (M + 2) hM hN ks hk, Option.bind_some]
  refine Def.bif (fun _ => Def.ret fun _ => rfl) (fun e => ?_)
  have hk' : okKeys ks = true := by simpa using e
  refine Def.ite (room_of (by simp) (by simp)) ?_
  rw [List.nil_append, sortFunc_one (M + 2) x ks (by omega), Option.bind_some]
  have hid : i_idsOf_m (M + 2) [x] = some [x.1] := rfl
  rw [hid, Option.bind_some]
  exact Def.ret fun h => by rw [hk'] at h; cases h
theorem fnSortLess_law0 (N : Nat) (hM : Sm < N) (hN : N ≤ 1099511627776) (code more : List Int) (hb : Bs code) (hb2 : Bs more) : l_FnSortLess_m N code more = some true := by
  have hM' : 1048576 < N := hM
  refine Def.get ?_
  unfold l_FnSortLess_m
  refine Def.dif (fun _ => Def.ret rfl) (fun _ => ?_)
  refine Def.dif (fun _ => Def.ret rfl) (fun _ => ?_)
  refine Def.bind (drawLess_def N hb (by omega)) fun r ⟨oa, ob, ok⟩ => ?_
  refine Def.bind (drawLess_def N hb2 (by omega)) fun r2 ⟨od, _, _⟩ => ?_
  obtain ⟨a1, a2, a3, b1, b2, b3, ks⟩ := r
  obtain ⟨d1, d2, d3, r2⟩ := r2
  dsimp only at oa ob ok od ⊢
  have la : ∀ x y : EDoc, okD Sm TDoc x → okD Sm TDoc y → i_SortLess_m N x.1 x.2.1 x.2.2 y.1 y.2.1 y.2.2 ks = some (sortLess x y ks) := fun x y hx hy => implLess_spec N hM hN x y ks hx hy ok
  have hab := la (a1, a2, a3) (b1, b2, b3) oa ob
  have hba := la (b1, b2, b3) (a1, a2, a3) ob oa
  have hbd := la (b1, b2, b3) (d1, d2, d3) ob od
  have had := la (a1, a2, a3) (d1, d2, d3) oa od
  have hsp := specLess_spec N hM hN (a1, a2, a3) (b1, b2, b3) ks oa ob ok
  dsimp only at hab hba hbd had hsp
  have asym : sortLess (a1, a2, a3) (b1, b2, b3) ks = true → sortLess (b1, b2, b3) (a1, a2, a3) ks = false := fun h => by
    unfold sortLess at h ⊢
    simp only [Bool.and_eq_true] at h
    rw [lessK_asym _ _ _ h.2, Bool.and_false]
  have tot : okDoc (a1, a2, a3) = true → okDoc (b1, b2, b3) = true → okKeys ks = true → a1 ≠ b1 → sortLess (a1, a2, a3) (b1, b2, b3) ks = true ∨ sortLess (b1, b2, b3) (a1, a2, a3) ks = true := fun h1 h2 h3 h4 => by
    unfold sortLess
    rw [h1, h2, h3]
    exact lessK_total (a1, a2, a3) (b1, b2, b3) h4 ks
  have tra : sortLess (a1, a2, a3) (b1, b2, b3) ks = true → sortLess (b1, b2, b3) (d1, d2, d3) ks = true → sortLess (a1, a2, a3) (d1, d2, d3) ks = true := fun h1 h2 => by
    unfold sortLess at h1 h2 ⊢
    simp only [Bool.and_eq_true] at h1 h2 ⊢
    exact ⟨⟨⟨h1.1.1.1, h2.1.1.2⟩, h1.1.2⟩, lessK_trans _ _ _ _ h1.2 h2.2⟩
  rw [hab, hba, hsp, Option.bind_some, Option.bind_some, Option.bind_some, docOk_spec N hM hN a1 a2 a3 oa, docOk_spec N hM hN b1 b2 b3 ob, docOk_spec N hM hN d1 d2 d3 od, Option.bind_some]
  generalize hs1 : sortLess (a1, a2, a3) (b1, b2, b3) ks = s1 at *
  generalize hs2 : sortLess (b1, b2, b3) (a1, a2, a3) ks = s2 at *
  have weak : Def (bif s1 then some (!s2) else some true) fun r => r = true := by
    cases s1
    · exact Def.ret rfl
    · rw [asym rfl]; exact Def.ret rfl
  have be : (!(s1 == s1)) = false := by cases s1 <;> rfl
  rw [be, cond_false]
  refine Def.bif (fun _ => weak) (fun h6 => ?_)
  rw [Option.bind_some]
  refine Def.bif (fun _ => weak) (fun h7 => ?_)
  rw [Option.bind_some]
  refine Def.bif (fun _ => weak) (fun h8 => ?_)
  have h6 : okDoc (a1, a2, a3) = true := by simpa using h6
  have h7 : okDoc (b1, b2, b3) = true := by simpa using h7
  refine Def.bind (sortOf_one N hM hN (a1, a2, a3) ks oa ok h6) fun r9 h9 => ?_
  refine Def.dif (fun _ => weak) (fun h10 => ?_)
  have hk : okKeys ks = true := by
    cases e : okKeys ks with
    | true => rfl
    | false => exact absurd (by rw [h9 e]; rfl) h10
  have tail : Def (bif !s1 then some true else Option.bind (i_SortLess_m N b1 b2 b3 d1 d2 d3 ks) fun r10 => bif !r10 then some true else Option.bind (i_SortLess_m N a1 a2 a3 d1 d2 d3 ks) fun r11 => some r11) fun r => r = true := by
    rw [hbd, Option.bind_some, had, Option.bind_some]
    cases s1
    · exact Def.ret rfl
    · rw [Bool.not_true, cond_false]
      refine Def.bif (fun _ => Def.ret rfl) (fun h => Def.ret (tra rfl (by simpa using h)))
  have core : Def (bif decide (a1 = b1) then (bif !s1 then some true else Option.bind (i_SortLess_m N b1 b2 b3 d1 d2 d3 ks) fun r10 => bif !r10 then some true else Option.bind (i_SortLess_m N a1 a2 a3 d1 d2 d3 ks) fun r11 => some r11)
      else (bif s1 then (bif !s1 then some true else Option.bind (i_SortLess_m N b1 b2 b3 d1 d2 d3 ks) fun r10 => bif !r10 then some true else Option.bind (i_SortLess_m N a1 a2 a3 d1 d2 d3 ks) fun r11 => some r11)
        else (bif s2 then (bif !s1 then some true else Option.bind (i_SortLess_m N b1 b2 b3 d1 d2 d3 ks) fun r10 => bif !r10 then some true else Option.bind (i_SortLess_m N a1 a2 a3 d1 d2 d3 ks) fun r11 => some r11) else some false))) fun r => r = true := by
    refine Def.dif (fun _ => tail) (fun hne => ?_)
    refine Def.bif (fun _ => tail) (fun e1 => ?_)
    refine Def.bif (fun _ => tail) (fun e2 => ?_)
    rcases tot h6 h7 hk hne with h | h
    · rw [e1] at h; cases h
    · rw [e2] at h; cases h
  refine Def.bif (fun e1 => ?_) (fun _ => core)
  refine Def.bif (fun _ => core) (fun e2 => ?_)
  rw [asym e1] at e2; cases e2
theorem bytes_ok {code : List Int} (o : okD BigN (.sl (.int .u8)) code) : Bs code := fun x hx => by
  have h := o.2 x hx
  have e1 : IntKind.u8.min = 0 := by decide
  have e2 : IntKind.u8.max = 255 := by decide
  have h1 : IntKind.u8.min ≤ x := h.1
  have h2 : x ≤ IntKind.u8.max := h.2
  rw [e1] at h1
  rw [e2] at h2
  exact ⟨h1, h2⟩
theorem fnSortLess_law (code more : List Int) (o0 : okD BigN (.sl (.int .u8)) code) (o1 : okD BigN (.sl (.int .u8)) more) : l_FnSortLess_m 1048700 code more = some true := fnSortLess_law0 1048700 (by decide) (by decide) code more (bytes_ok o0) (bytes_ok o1)
end Go.Proofs.Ytjggioppicabbaa

/- Plain laws: up to twelve documents are put in order by inserting. -/
set_option linter.unusedVariables false
set_option linter.unusedSimpArgs false
namespace Go.Proofs.Ytjggioppicabbaa
open Go.RowKit
/-- Documents that are ok, each with a number of its own. -/
structure Docs (xs : List EDoc) : Prop where
  ok : ∀ x, x ∈ xs → okD Sm TDoc x ∧ okDoc x = true
  one : (xs.map (·.1)).Nodup
theorem Docs.perm {xs ys : List EDoc} (h : Docs xs) (hp : ys.Perm xs) : Docs ys := ⟨fun x hx => h.ok x (hp.mem_iff.1 hx), (hp.map _).nodup_iff.2 h.one⟩
def InOrd (ks : List EKey) (xs : List EDoc) : Prop := xs.Pairwise fun a b => lessK a b ks = true
theorem ahead_same {ks : List EKey} {xs ys : List EDoc} (h : xs.Perm ys) (hx : InOrd ks xs) (hy : InOrd ks ys) : xs = ys := by
  refine List.Perm.eq_of_pairwise (le := fun a b => lessK a b ks = true) (fun a b _ _ h1 h2 => ?_) hx hy h
  rw [lessK_asym a b ks h1] at h2; cases h2
theorem cmp_def (N : Nat) (hM : Sm < N) (hN : N ≤ 1099511627776) (a b : EDoc) (ks : List EKey) (ha : okD Sm TDoc a) (hb : okD Sm TDoc b) (hk : okD Sm (.sl TKey) ks) (oa : okDoc a = true) (ob : okDoc b = true) :
    Def (i_SortOf_1_m N a.1 a.2.1 a.2.2 b.1 b.2.1 b.2.2 ks) fun r => decide (r < 0) = lessK a b ks :=
  Def.bind (docOrder_spec N hM hN a b ks ha hb hk oa ob) fun r hr => Def.ret hr
theorem swap_at {α : Type} (L M : List α) (y x : α) : ((L ++ y :: x :: M).set (L.length + 1) y).set L.length x = L ++ x :: y :: M := by
  rw [List.set_append, if_neg (by omega), show L.length + 1 - L.length = 1 from by omega, List.set_append, if_neg (by omega), Nat.sub_self]
  rfl
theorem insert_def (N : Nat) (hM : Sm < N) (hN : N ≤ 1099511627776) (data : List EDoc) (ks : List EKey) (hd : Docs data) (hk : okD Sm (.sl TKey) ks) (hl : data.length ≤ 1000) :
    Def (k_slices_insertionSortCmpFunc_424_m N data 0 (data.length : Int) ks) fun r => r.Perm data ∧ InOrd ks r := by
  have hM' : 1048576 < N := hM
  unfold k_slices_insertionSortCmpFunc_424_m
  refine Def.ite (by unfold fits; omega) ?_
  by_cases h0 : data.length = 0
  · obtain rfl : data = [] := List.length_eq_zero_iff.1 h0
    obtain ⟨M, rfl⟩ : ∃ M, N = M + 1 := ⟨N - 1, by omega⟩
    exact Def.ret ⟨List.Perm.refl _, List.Pairwise.nil⟩
  refine Def.upto data.length (fun n g => ∃ d, d.Perm data ∧ InOrd ks (d.take n) ∧ g = (d, 0, (data.length : Int), ks, (n : Int))) ?_ ?_ N 1 _ (by omega) ⟨data, List.Perm.refl _, ?_, rfl⟩ (by omega)
  · rintro go _ ⟨d, hp, ha, rfl⟩
    dsimp only
    rw [decide_eq_false (Int.lt_irrefl _), cond_false]
    rw [← hp.length_eq, List.take_length] at ha
    exact Def.ret ⟨hp, ha⟩
  · rintro go n _ hn ⟨d, hp, ha, rfl⟩ hgo
    dsimp only
    rw [decide_eq_true (by omega : (n : Int) < (data.length : Int)), cond_true]
    have hdl := hp.length_eq
    have hnd : n < d.length := by omega
    refine Def.iter (fun g => ∃ L M R x, (L ++ x :: M ++ R).Perm data ∧ L.length + M.length = n ∧ InOrd ks (L ++ M) ∧ (∀ m, m ∈ M → lessK x m ks = true) ∧ g = (L ++ x :: M ++ R, 0, (data.length : Int), ks, (n : Int), (L.length : Int))) (fun g => g.2.2.2.2.2.toNat) ?_ N _ ⟨d.take n, [], d.drop (n + 1), d[n], ?_, by simp; omega, by rw [List.append_nil]; exact ha, (fun m hm => by cases hm), ?_⟩ (by show ((n : Int)).toNat < N; omega)
    · rintro go2 _ ⟨L, M, R, x, hq, hlm, hA, hx, rfl⟩ hgo2
      dsimp only
      have hD := hd.perm hq
      have hql := hq.length_eq
      have stop : (∀ y, L.getLast? = some y → lessK y x ks = true) → Def (if fits ((n : Int) + 1) then go (L ++ x :: M ++ R, 0, (data.length : Int), ks, (n : Int) + 1) else none) fun r => r.Perm data ∧ InOrd ks r := fun hy => by
        refine Def.ite (fits_nat (n := n) (by omega)) (hgo _ ⟨L ++ x :: M ++ R, hq, ?_, by rw [cast_succ']⟩)
        have e : (L ++ x :: M ++ R).take (n + 1) = L ++ x :: M := by
          rw [List.take_append_of_le_length (by simp; omega), List.take_of_length_le (by simp; omega)]
        rw [e]
        unfold InOrd at hA ⊢
        rw [List.pairwise_append] at hA ⊢
        refine ⟨hA.1, List.pairwise_cons.2 ⟨hx, hA.2.1⟩, fun a ha b hb => ?_⟩
        rcases List.mem_cons.1 hb with rfl | hb
        · rcases List.eq_nil_or_concat L with h | ⟨L', y, h⟩
          · rw [h] at ha; cases ha
          · subst h
            have hyx := hy y (by simp)
            rw [List.concat_eq_append] at ha hA
            rcases List.mem_append.1 ha with ha | ha
            · have h1 := (List.pairwise_append.1 hA.1).2.2 a ha y (by simp)
              exact lessK_trans a y b ks h1 hyx
            · rw [List.mem_singleton.1 ha]; exact hyx
        · exact hA.2.2 a ha b hb
      rcases List.eq_nil_or_concat L with h | ⟨L', y, h⟩
      · subst h
        rw [decide_eq_false (by simp), cond_false]
        exact stop fun y hy => by cases hy
      · subst h
        have hL : (L'.concat y).length = L'.length + 1 := by simp
        have ed : L'.concat y ++ x :: M ++ R = L' ++ y :: x :: (M ++ R) := by simp
        have hlen : (L' ++ y :: x :: (M ++ R)).length = data.length := by rw [← ed]; exact hql
        have hlen2 := hlen
        simp only [List.length_append, List.length_cons] at hlen2
        rw [hL]
        rw [ed] at hq hD stop ⊢
        have g1 : (L' ++ y :: x :: (M ++ R))[L'.length + 1]? = some x := by rw [List.getElem?_append_right (by omega)]; simp
        have g2 : (L' ++ y :: x :: (M ++ R))[L'.length]? = some y := by rw [List.getElem?_append_right (by omega)]; simp
        have t1 : (((L'.length + 1 : Nat) : Int)).toNat = L'.length + 1 := by omega
        have t2 : (((L'.length + 1 : Nat) : Int) - 1).toNat = L'.length := by omega
        have ox := hD.ok x (by simp)
        have oy := hD.ok y (by simp)
        rw [decide_eq_true (by omega : (0 : Int) < ((L'.length + 1 : Nat) : Int)), cond_true]
        refine Def.ite ⟨by omega, by rw [hlen]; omega⟩ ?_
        rw [t1, g1, Option.bind_some]
        refine Def.ite (by unfold fits; omega) (Def.ite ⟨by omega, by rw [hlen]; omega⟩ ?_)
        rw [t2, g2, Option.bind_some]
        refine Def.bind (cmp_def N hM hN x y ks ox.1 oy.1 hk ox.2 oy.2) fun r hr => ?_
        refine Def.bif (fun er => ?_) (fun er => ?_)
        · rw [hr] at er
          refine Def.ite (by unfold fits; omega) (Def.ite (by unfold fits; omega) (Def.ite ⟨by omega, by rw [hlen]; omega⟩ ?_))
          rw [Option.bind_some]
          refine Def.ite ⟨by omega, by rw [hlen]; omega⟩ ?_
          rw [Option.bind_some]
          refine Def.ite ⟨by omega, by rw [hlen]; omega⟩ ?_
          rw [Option.bind_some]
          refine Def.ite ⟨by omega, by rw [List.length_set, hlen]; omega⟩ ?_
          have g3 : ((L' ++ y :: x :: (M ++ R)).set (L'.length + 1) y)[L'.length]? = some y := by rw [List.getElem?_set_ne (by omega)]; exact g2
          rw [g3, Option.bind_some]
          refine Def.ite (by unfold fits; omega) (hgo2 _ ⟨L', y :: M, R, x, ?_, by simp only [List.length_cons]; simp at hlm; omega, ?_, fun m hm => ?_, ?_⟩ ?_)
          · refine List.Perm.trans ?_ hq
            simp only [List.append_assoc, List.cons_append]
            exact List.Perm.append_left _ (List.Perm.swap _ _ _)
          · simpa using hA
          · rcases List.mem_cons.1 hm with rfl | hm
            · exact er
            · exact hx m hm
          · rw [swap_at, show (((L'.length + 1 : Nat) : Int) - 1) = (L'.length : Int) from by omega]
            simp
          · show (((L'.length + 1 : Nat) : Int) - 1).toNat < (((L'.concat y).length : Nat) : Int).toNat
            rw [hL]; omega
        · rw [hr] at er
          refine stop fun z hz => ?_
          obtain rfl : y = z := by simpa using hz
          have hne : x.1 ≠ y.1 := fun e => by
            have := hD.one
            simp only [List.map_append, List.map_cons] at this
            have h2 := (List.nodup_append.1 this).2.1
            rw [List.nodup_cons] at h2
            exact h2.1 (by rw [e]; simp)
          rcases lessK_total x y hne ks with h | h
          · rw [er] at h; cases h
          · exact h
    · have e : d.take n ++ d[n] :: [] ++ d.drop (n + 1) = d := by
        rw [List.append_assoc, List.singleton_append, ← List.drop_eq_getElem_cons hnd, List.take_append_drop]
      rw [e]; exact hp
    · have e : d.take n ++ d[n] :: [] ++ d.drop (n + 1) = d := by
        rw [List.append_assoc, List.singleton_append, ← List.drop_eq_getElem_cons hnd, List.take_append_drop]
      rw [e]
      simp
      omega
  · unfold InOrd
    match data, h0 with
    | x :: xs, _ => simp
end Go.Proofs.Ytjggioppicabbaa

