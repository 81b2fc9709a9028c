/- Plain laws: words; questions that are ok. -/
import Derived.Test.YtokkfonfajgomaaDoorQ1
import Derived.Test.YtokkfonfajgomaaDoorG1
set_option linter.unusedVariables false
set_option linter.unusedSimpArgs false
namespace Go.Proofs.YtokkfonfajgomaaDoor
open Go.RowKit
theorem check_loop {δ : Type} (F : (δ → Option Bool) → δ → Option Bool) (len : Nat) (st : Nat → δ) (chk : Nat → Bool) (fin : Bool) (hend : ∀ go, F go (st len) = some fin)
    (hstep : ∀ go n, n < len → F go (st n) = bif chk n then go (st (n + 1)) else some false) (N : Nat) (h : len < N) : iter F N (st 0) = some (((List.range' 0 len).all chk) && fin) := by
  have key := iter_scan F len st (fun n => some (((List.range' n (len - n)).all chk) && fin)) (fun go => by rw [hend, Nat.sub_self]; simp) (fun go n hn hgo => ?_) N 0 (Nat.zero_le _) (by omega)
  · simpa using key
  · rw [hstep go n hn, hgo, show len - n = (len - (n + 1)) + 1 from by omega, List.range'_succ, List.all_cons]
    cases chk n <;> simp
def allN (len : Nat) (chk : Nat → Bool) : Bool := (List.range' 0 len).all chk
theorem bytesLess_or : ∀ (x y : List UInt8), (Op.bytesLess x y || decide (x = y)) = !Op.bytesLess y x
  | [], [] => by simp [Op.bytesLess]
  | _ :: _, [] => by simp [Op.bytesLess]
  | [], _ :: _ => by simp [Op.bytesLess]
  | a :: x, b :: y => by
    have ih := bytesLess_or x y
    simp only [Op.bytesLess]
    rcases Nat.lt_trichotomy a.toNat b.toNat with h | h | h
    · have h1 : a < b := UInt8.lt_iff_toNat_lt.2 h
      have h2 : ¬ b < a := fun e => by have := UInt8.lt_iff_toNat_lt.1 e; omega
      have h3 : ¬ b = a := fun e => by rw [e] at h; omega
      simp [h1, h2, h3]
    · have h1 : a = b := UInt8.toNat_inj.1 h
      subst h1
      have h2 : ¬ a < a := fun e => by have := UInt8.lt_iff_toNat_lt.1 e; omega
      simpa [h2] using ih
    · have h1 : b < a := UInt8.lt_iff_toNat_lt.2 h
      have h2 : ¬ a < b := fun e => by have := UInt8.lt_iff_toNat_lt.1 e; omega
      have h3 : ¬ a = b := fun e => by rw [e] at h; omega
      simp [h1, h2, h3]
def wB (n : Int) : Bool := (decide (97 ≤ n) && decide (n ≤ 122)) || (decide (48 ≤ n) && decide (n ≤ 57))
theorem wordByte_spec (N : Nat) (n : Int) : i_wordByte_m N n = some (wB n) := by
  unfold i_wordByte_m wB
  cases decide (97 ≤ n) <;> cases decide (n ≤ 122) <;> cases decide (48 ≤ n) <;> cases decide (n ≤ 57) <;> rfl
theorem fold_all : ∀ n : Nat, n < 256 → (match s_l1Fold_m 0 (n : Int) with | some r => (decide (r = (n : Int)) && !decide ((n : Int) = 0)) == wB n | none => false) = true := by decide +kernel
theorem fold_spec (N : Nat) (c : UInt8) : ∃ r, s_l1Fold_m N (c.toNat : Int) = some r ∧ (decide (r = (c.toNat : Int)) && !decide ((c.toNat : Int) = 0)) = wB c.toNat := by
  have h := fold_all c.toNat (UInt8.toNat_lt c)
  have e : s_l1Fold_m N (c.toNat : Int) = s_l1Fold_m 0 (c.toNat : Int) := rfl
  rw [e]
  cases hr : s_l1Fold_m 0 (c.toNat : Int) with
  | none => rw [hr] at h; cases h
  | some r => rw [hr] at h; exact ⟨r, rfl, by simpa using h⟩
def atB (s : List UInt8) (n : Nat) : Int := ((s[n]?.getD 0).toNat : Int)
theorem atB_eq {s : List UInt8} {n : Nat} (h : n < s.length) : (s[n].toNat : Int) = atB s n := by unfold atB; rw [List.getElem?_eq_getElem h]; rfl
theorem within_spec (N : Nat) (n a b : Int) : i_within_m N n a b = some (decide (a ≤ n) && decide (n ≤ b)) := by
  unfold i_within_m; cases decide (a ≤ n) <;> rfl
theorem l1In_spec (N : Nat) (n a b : Int) : s_l1In_m N n a b = some (decide (a ≤ n) && decide (n ≤ b)) := by
  unfold s_l1In_m; cases decide (a ≤ n) <;> rfl
def okW (s : List UInt8) : Bool := allN s.length (fun n => wB (atB s n)) && (decide ((1 : Int) ≤ s.length) && decide ((s.length : Int) ≤ 12))
theorem wordOk_spec (N : Nat) (s : List UInt8) (h : s.length < N) (hN : N ≤ 1099511627776) : i_WordOk_m N s = some (okW s) := by
  unfold i_WordOk_m
  refine check_loop _ s.length (fun n => (s, (s.length : Int), (n : Int))) (fun n => wB (atB s n)) _ (fun go => ?_) (fun go n hn => ?_) N h
  · dsimp only
    rw [decide_eq_false (Int.lt_irrefl _), cond_false, within_spec, Option.bind_some]
  · dsimp only
    rw [decide_eq_true (by omega : (n : Int) < (s.length : Int)), cond_true, idx_at hn, Option.bind_some, wordByte_spec, Option.bind_some, atB_eq hn, if_pos (fits_nat (n := n) (by omega)), cast_succ']
    cases wB (atB s n) <;> rfl
theorem l1WordOk_spec (N : Nat) (s : List UInt8) (h : s.length < N) (hN : N ≤ 1099511627776) : s_l1WordOk_m N s = some (okW s) := by
  unfold s_l1WordOk_m
  refine check_loop _ s.length (fun n => (s, (n : Int))) (fun n => wB (atB s n)) _ (fun go => ?_) (fun go n hn => ?_) N h
  · dsimp only
    rw [decide_eq_false (Int.lt_irrefl _), cond_false, l1In_spec, Option.bind_some]
  · dsimp only
    obtain ⟨r, h1, h2⟩ := fold_spec N s[n]
    rw [decide_eq_true (by omega : (n : Int) < (s.length : Int)), cond_true, idx_at hn, Option.bind_some, h1, Option.bind_some, Option.bind_some, Option.bind_some, if_pos (fits_nat (n := n) (by omega)), cast_succ', ← atB_eq hn, ← h2]
    cases decide (r = (s[n].toNat : Int)) <;> cases decide ((s[n].toNat : Int) = 0) <;> rfl
theorem check_then {δ ρ : Type} (F : (δ → Option ρ) → δ → Option ρ) (len : Nat) (st : Nat → δ) (chk : Nat → Bool) (no fin : Option ρ) (hend : ∀ go, F go (st len) = fin)
    (hstep : ∀ go n, n < len → F go (st n) = bif chk n then go (st (n + 1)) else no) (N : Nat) (h : len < N) : iter F N (st 0) = bif allN len chk then fin else no := by
  have key := iter_scan F len st (fun n => bif (List.range' n (len - n)).all chk then fin else no) (fun go => by rw [hend, Nat.sub_self]; simp) (fun go n hn hgo => ?_) N 0 (Nat.zero_le _) (by omega)
  · simpa [allN] using key
  · rw [hstep go n hn, hgo, show len - n = (len - (n + 1)) + 1 from by omega, List.range'_succ, List.all_cons]
    cases chk n <;> simp
theorem allN_list {α : Type} (xs : List α) (P : α → Bool) (chk : Nat → Bool) (h : ∀ (n : Nat) (hn : n < xs.length), chk n = P xs[n]) : allN xs.length chk = xs.all P := by
  unfold allN
  rw [Bool.eq_iff_iff, List.all_eq_true, List.all_eq_true]
  constructor
  · intro hc x hx
    obtain ⟨n, hn, rfl⟩ := List.mem_iff_getElem.1 hx
    rw [← h n hn]
    exact hc n (by simp; omega)
  · intro hp n hn
    simp at hn
    rw [h n (by omega)]
    exact hp _ (List.getElem_mem _)
theorem check_list {α δ ρ : Type} (F : (δ → Option ρ) → δ → Option ρ) (xs : List α) (st : Nat → δ) (P : α → Bool) (no fin : Option ρ) (hend : ∀ go, F go (st xs.length) = fin)
    (hstep : ∀ go n (hn : n < xs.length), F go (st n) = bif P xs[n] then go (st (n + 1)) else no) (N : Nat) (h : xs.length < N) : iter F N (st 0) = bif xs.all P then fin else no := by
  rw [check_then F xs.length st (fun n => if hn : n < xs.length then P xs[n] else false) no fin hend (fun go n hn => by rw [dif_pos hn]; exact hstep go n hn) N h, allN_list xs P _ (fun n hn => by rw [dif_pos hn])]
def gB (n : Int) : Bool := wB n || (decide (n = 42) || decide (n = 63))
def okG (s : List UInt8) : Bool := allN s.length (fun n => gB (atB s n)) && (decide ((1 : Int) ≤ s.length) && decide ((s.length : Int) ≤ 12))
theorem globOk_spec (N : Nat) (s : List UInt8) (h : s.length < N) (hN : N ≤ 1099511627776) : i_GlobOk_m N s = some (okG s) := by
  unfold i_GlobOk_m
  refine check_loop _ s.length (fun n => (s, (s.length : Int), (n : Int))) (fun n => gB (atB s n)) _ (fun go => ?_) (fun go n hn => ?_) N h
  · dsimp only
    rw [decide_eq_false (Int.lt_irrefl _), cond_false, within_spec, Option.bind_some]
  · dsimp only
    rw [decide_eq_true (by omega : (n : Int) < (s.length : Int)), cond_true, idx_at hn]
    simp only [Option.bind_some, wordByte_spec, atB_eq hn]
    have hf : fits ((n : Int) + 1) := fits_nat (by omega)
    simp only [if_pos hf, cast_succ']
    unfold gB
    cases wB (atB s n) <;> cases decide (atB s n = 42) <;> cases decide (atB s n = 63) <;> rfl
theorem one_word (N : Nat) (s : List UInt8) (n : Nat) (hn : n < s.length) (h : 2 < N) (hN : N ≤ 1099511627776) : s_l1WordOk_m N ((s.take (n + 1)).drop n) = some (wB (atB s n)) := by
  have hl : ((s.take (n + 1)).drop n).length = 1 := by rw [List.length_drop, List.length_take]; omega
  rw [l1WordOk_spec N _ (by omega) hN]
  congr 1
  unfold okW
  rw [hl]
  have : atB ((s.take (n + 1)).drop n) 0 = atB s n := by
    unfold atB
    rw [List.getElem?_drop, List.getElem?_take, if_pos (by omega), Nat.add_zero]
  show ((List.range' 0 1).all _ && _) = _
  rw [show List.range' 0 1 = [0] from rfl, List.all_cons, List.all_nil, this]
  cases wB (atB s n) <;> rfl
theorem l5GlobOk_spec (N : Nat) (s : List UInt8) (h : s.length < N) (h2 : 2 < N) (hN : N ≤ 1099511627776) : s_l5GlobOk_m N s = some (okG s) := by
  unfold s_l5GlobOk_m
  refine check_loop _ s.length (fun n => (s, (n : Int))) (fun n => gB (atB s n)) _ (fun go => ?_) (fun go n hn => ?_) N h
  · dsimp only
    rw [decide_eq_false (Int.lt_irrefl _), cond_false, l1In_spec, Option.bind_some]
  · dsimp only
    have hc : cut s (n : Int) ((n : Int) + 1) = some ((s.take (n + 1)).drop n) := by
      unfold cut
      rw [if_pos ⟨by omega, by omega, by omega⟩, show ((n : Int) + 1).toNat = n + 1 from by omega, Int.toNat_natCast]
    rw [decide_eq_true (by omega : (n : Int) < (s.length : Int)), cond_true, idx_at hn]
    simp only [Option.bind_some, atB_eq hn]
    have hf : fits ((n : Int) + 1) := fits_nat (by omega)
    simp only [if_pos hf, hc, Option.bind_some]
    have hw := one_word N s n hn h2 hN
    generalize s_l1WordOk_m N ((s.take (n + 1)).drop n) = w at *
    subst hw
    rw [Option.bind_some, cast_succ']
    unfold gB
    generalize wB (atB s n) = p
    cases p <;> cases decide (atB s n = 42) <;> cases decide (atB s n = 63) <;> rfl
def nilB {α : Type} (l : List α) : Bool := decide ((l.length : Int) = 0)
def oneQ (k : Int) (f : List UInt8) (ws : List (List UInt8)) (a b : Int) (kids : List DQ) : Bool :=
  bif decide (k = 1) then decide (f = []) && (nilB ws && ((decide (a = 0) && decide (b = 0)) && nilB kids))
  else bif decide (k = 2) then (decide (a = 0) && decide (b = 0) && nilB kids) && (okW f && (ws.all okW && decide ((ws.length : Int) = 1)))
  else bif decide (k = 3) then nilB kids && (okW f && (ws.all okW && (decide ((2 : Int) ≤ ws.length) && decide ((ws.length : Int) ≤ 4)) && (decide (b = 0) && (decide (0 ≤ a) && decide (a ≤ 5)))))
  else bif decide (k = 4) then nilB kids && (okW f && (ws.all okW && decide ((ws.length : Int) = 1) && (decide (b = 0) && (decide (1 ≤ a) && decide (a ≤ 2)))))
  else bif decide (k = 5) then (decide (a = 0) && decide (b = 0) && nilB kids) && (okW f && (ws.all (fun w => okG w && !okW w) && decide ((ws.length : Int) = 1)))
  else bif decide (k = 6) then nilB ws && nilB kids && (okW f && ((decide (0 ≤ a) && decide (a ≤ 999999999)) && (decide (a ≤ b) && decide (b ≤ 999999999))))
  else bif decide (k = 7) || decide (k = 8) then decide (f = []) && (nilB ws && ((decide (a = 0) && decide (b = 0)) && (decide ((2 : Int) ≤ kids.length) && decide ((kids.length : Int) ≤ 4))))
  else bif decide (k = 9) then decide (f = []) && (nilB ws && ((decide (a = 0) && decide (b = 0)) && decide ((kids.length : Int) = 2)))
  else bif decide (k = 10) then decide (f = []) && (nilB ws && (decide ((kids.length : Int) = 1) && (decide (b = 0) && (decide (2 ≤ a) && decide (a ≤ 9)))))
  else false
def okQ : Nat → DQ → Bool
  | 0, _ => false
  | n + 1, .mk k f ws a b kids => oneQ k f ws a b kids && kids.all (okQ n)
theorem bare_spec (N : Nat) (k : Int) (f : List UInt8) (ws : List (List UInt8)) (a b : Int) (kids : List DQ) (p q r s : Bool) : s_l11Bare_m N k f ws a b kids p q r s = some ((p || decide (f = [])) && ((q || nilB ws) && ((r || (decide (a = 0) && decide (b = 0))) && (s || nilB kids)))) := by
  unfold s_l11Bare_m nilB
  cases p <;> cases q <;> cases r <;> cases s <;> cases decide (f = []) <;> cases decide ((ws.length : Int) = 0) <;> cases decide (a = 0) <;> cases decide (b = 0) <;> cases decide ((kids.length : Int) = 0) <;> rfl
theorem words_spec (N : Nat) (hM : Sm < N) (hN : N ≤ 1099511627776) (ws : List (List UInt8)) (most : Int) (h : ws.length ≤ 1048576) (hw : ∀ w, w ∈ ws → w.length ≤ 1048576) : s_l11Words_m N ws most = some (ws.all okW && (decide ((1 : Int) ≤ ws.length) && decide ((ws.length : Int) ≤ most))) := by
  have hM' : 1048576 < N := hM
  unfold s_l11Words_m
  refine (check_list _ ws (fun n => (ws, most, (n : Int))) okW (some false) (some (decide ((1 : Int) ≤ ws.length) && decide ((ws.length : Int) ≤ most))) (fun go => ?_) (fun go n hn => ?_) N (by omega)).trans (by cases ws.all okW <;> rfl)
  · dsimp only
    rw [decide_eq_false (Int.lt_irrefl _), cond_false, l1In_spec, Option.bind_some]
  · dsimp only
    have := hw _ (List.getElem_mem hn)
    rw [decide_eq_true (by omega : (n : Int) < (ws.length : Int)), cond_true, idx_at hn, Option.bind_some, l1WordOk_spec N _ (by omega) hN, Option.bind_some, if_pos (fits_nat (n := n) (by omega)), cast_succ']
    cases okW ws[n] <;> rfl
end Go.Proofs.YtokkfonfajgomaaDoor
