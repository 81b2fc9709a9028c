import Derived.Test.YtcjbjmbialienaaGreatDoorSB
import Derived.Test.YtcjbjmbialienaaGreatDoorMK
set_option linter.unusedVariables false
set_option linter.unusedSimpArgs false
namespace Go.Proofs.YtcjbjmbialienaaGreatDoor
open Go.RowKit
theorem fits_abs {n : Int} (h0 : -9223372036854775800 ≤ n) (h1 : n ≤ 9223372036854775800) : fits n := by unfold fits; omega
theorem jes (a b : Nat) (h : b ≠ 0) : Nat.gcd b (a % b) = Nat.gcd a b := by rw [Nat.gcd_comm a b, Nat.gcd_rec b a, Nat.gcd_comm]
theorem jhW (N : Nat) (a b : Nat) (h : b < N) (ha : (a : Int) ≤ 1000000000000) (hb : (b : Int) ≤ 1000000000000) : ja2 N a b = some (Nat.gcd a b : Int) := by
 refine Def.get ?_
 unfold ja2
 refine Def.iter (fun g => ∃ x y : Nat, g = ((x : Int), (y : Int)) ∧ Nat.gcd x y = Nat.gcd a b ∧ x ≤ 1000000000000 ∧ y ≤ 1000000000000) (fun g => g.2.toNat) (fun go g hI hgo => ?_) N _ ⟨a, b, rfl, rfl, by omega, by omega⟩ (by simpa using h)
 obtain ⟨x, y, rfl, he, hx, hy⟩ := hI
 dsimp only
 by_cases e : (y : Int) = 0
 ·have e' : y = 0 := by omega
  rw [zb e, zn, ze, zf (fits_abs (by omega) (by omega)), zu (by omega)]
  refine Def.ret ?_
  rw [← he, e', Nat.gcd_zero_right]
 ·rw [zd e, zaI, zg, zf e]
  have e' : y ≠ 0 := by omega
  have ht : (x : Int).tmod (y : Int) = ((x % y : Nat) : Int) := by rw [Int.tmod_eq_emod_of_nonneg (by omega)]; rfl
  rw [ht]
  have hl := Nat.mod_lt x (by omega : 0 < y)
  refine hgo _ ⟨y, x % y, rfl, by rw [jes x y e', he], hy, by omega⟩ ?_
  show (((x % y : Nat) : Int)).toNat < ((y : Nat) : Int).toNat
  rw [zai, zai]
  exact hl
theorem jf8 (N : Nat) : ∀ (D a b : Nat), b < D → (a : Int) ≤ 1000000000000 → (b : Int) ≤ 1000000000000 → jaY N D a b = some (Nat.gcd a b : Int)
 | 0, a, b, h, _, _ => by omega
 | D + 1, a, b, h, ha, hb => by
  refine Def.get ?_
  unfold jaY
  refine Def.meet (fun g => g = ((a : Int), (b : Int))) (fun g hg => ?_) (fun J hJ => ?_)
  ·subst hg
   dsimp only
   by_cases e : (b : Int) = 0
   ·have e' : b = 0 := by omega
    rw [zb e, zg]
    exact Def.ret (by rw [e', Nat.gcd_zero_right])
   ·have e' : b ≠ 0 := by omega
    have ht : (a : Int).tmod (b : Int) = ((a % b : Nat) : Int) := by rw [Int.tmod_eq_emod_of_nonneg (by omega)]; rfl
    have hl := Nat.mod_lt a (by omega : 0 < b)
    rw [zd e, ze, zf e, ht, jf8 N D b (a % b) (by omega) hb (by omega), za]
    exact Def.ret (by rw [jes a b e'])
  ·rw [zd (by omega), ze]
   exact hJ _ rfl
theorem fits_div {a b : Nat} (ha : (a : Int) ≤ 1000000000000) : fits ((a : Int).tdiv (b : Int)) := by
 rw [tdiv_nat]
 have := za5 a b
 generalize a / b = z at *
 exact fits_abs (by omega) (by omega)
theorem gcd_pos' {a b : Nat} (hb : 0 < b) : 0 < Nat.gcd a b := Nat.gcd_pos_of_pos_right a hb
theorem make_spec (N a b : Nat) (h : b < N) (hb0 : 0 < b) (ha : (a : Int) ≤ 1000000000000) (hb : (b : Int) ≤ 1000000000000) : jcf N a b = some (((a / Nat.gcd a b : Nat) : Int), ((b / Nat.gcd a b : Nat) : Int)) := by
 refine Def.get ?_
 unfold jcf
 have hg := gcd_pos' (a := a) hb0
 refine Def.meet (fun g => g = ((a : Int), (b : Int), 0, 0)) (fun g hg2 => ?_) (fun J hJ => ?_)
 ·subst hg2
  dsimp only
  rw [jf8 N N a b h ha hb, za, zf (by omega), zf (fits_div ha), zf (by omega), zf (fits_div hb), tdiv_nat, tdiv_nat]
  exact Def.ret rfl
 ·rw [zd (by omega), ze]
  exact hJ _ rfl
theorem jeE (N a b : Nat) (h : b < N) (ha : (a : Int) ≤ 1000000000) (hb0 : 0 < b) (hb : (b : Int) ≤ 1000000000) : jbk N a b = some (decide (Nat.gcd a b = 1)) := by
 unfold jbk
 rw [within_spec, za, zb (by omega), zb ha, zaV, zg, within_spec, za, zb (by omega), zb hb, zaV, zg, jhW N a b h (by omega) (by omega), za]
 congr 1
 rw [decide_eq_decide]
 omega
theorem ratOf_spec (N a b : Nat) (h : b < N) (ha : (a : Int) ≤ 1000000000) (hb0 : 0 < b) (hb : (b : Int) ≤ 1000000000) : jb7 N a b = some (((a / Nat.gcd a b : Nat) : Int), ((b / Nat.gcd a b : Nat) : Int), true) := by
 have hg := gcd_pos' (a := a) hb0
 have h1 := za5 a (Nat.gcd a b)
 have h2 := za5 b (Nat.gcd a b)
 have h3 : 0 < b / Nat.gcd a b := Nat.div_pos (Nat.le_of_dvd hb0 (Nat.gcd_dvd_right a b)) hg
 have hl : jcl N a b = some (((a / Nat.gcd a b : Nat) : Int), ((b / Nat.gcd a b : Nat) : Int), true) := by
  refine Def.get ?_
  unfold jcl
  refine Def.meet (fun g => g = ((a : Int), (b : Int), 0, 0)) (fun g hg2 => ?_) (fun J hJ => ?_)
  ·subst hg2
   dsimp only
   rw [jhW N a b h (by omega) (by omega), za, zf (by omega), zf (fits_div (by omega)), zf (by omega), zf (fits_div (by omega)), tdiv_nat, tdiv_nat, jeE N _ _ (by omega) (by omega) h3 (by omega), za, zb (Nat.gcd_div_gcd_div_gcd_of_pos_right hb0), zn, ze]
   exact Def.ret rfl
  ·rw [zd (by omega), ze]
   exact hJ _ rfl
 unfold jb7
 rw [within_spec, za, zb (by omega), zb ha, zaV, zn, ze, within_spec, za, zb (by omega), zb hb, zaV, zn, ze, zd (by omega), ze, hl, za]
theorem ratFloor_spec (N a b : Nat) (h : b < N) (ha : (a : Int) ≤ 1000000000) (hb0 : 0 < b) (hb : (b : Int) ≤ 1000000000) (hg : Nat.gcd a b = 1) : i_RatFloor_m N a b 1000 = some ((a * 1000 / b : Nat) : Int) := by
 unfold i_RatFloor_m
 rw [jeE N a b h ha hb0 hb, za, zb hg, zn, ze, within_spec, za, zb (by omega), zb (by omega), zaV, zn, ze, show (a : Int) * 1000 = ((a * 1000 : Nat) : Int) from by omega, zf (fits_abs (by omega) (by omega)), zb (by omega), zg, zf (by omega), zf (fits_div (by omega)), tdiv_nat]
def rareF (df docs : Nat) : Nat := Nat.log2 (docs / df)
def jfF (docs df : Nat) : Bool := decide (rareF df docs ≤ 4) && ((List.range 5).all (fun l => !decide (l < rareF df docs) || decide (df * 2 ^ (l + 1) ≤ docs)) && decide (docs < df * 2 ^ (rareF df docs + 1)))
theorem jrj : ((List.range 17).all fun docs => (List.range 17).all fun df => !decide (1 ≤ df) || (!decide (df ≤ docs) || jfF docs df)) = true := by decide +kernel
theorem rare_ok {df docs : Nat} (h0 : 1 ≤ df) (h1 : df ≤ docs) (h2 : docs ≤ 16) : rareF df docs ≤ 4 ∧ (∀ l, l < rareF df docs → df * 2 ^ (l + 1) ≤ docs) ∧ docs < df * 2 ^ (rareF df docs + 1) := by
 have h := zax.1 (zax.1 jrj docs (List.mem_range.2 (by omega))) df (List.mem_range.2 (by omega))
 rw [zb h0, zb h1, zn, zbf, zbf] at h
 unfold jfF at h
 rw [zj, zj, zw, zw] at h
 refine ⟨h.1, fun l hl => ?_, h.2.2⟩
 have h3 := zax.1 h.2.1 l (List.mem_range.2 (by omega))
 rw [zb hl, zn, zbf, zw] at h3
 exact h3
theorem l12Rare_spec (N : Nat) (df docs : Nat) (hN : 20 < N) (h0 : 1 ≤ df) (h1 : df ≤ docs) (h2 : docs ≤ 16) : jbz N df docs = some (rareF df docs : Int) := by
 obtain ⟨a, b, c⟩ := rare_ok h0 h1 h2
 refine Def.get ?_
 unfold jbz
 refine Def.upto (rareF df docs) (fun n g => g = (((df * 2 ^ n : Nat) : Int), (docs : Int), (n : Int))) (fun go g hg => ?_) (fun go n g hn hg hgo => ?_) N 0 _ (zaf _) (by simp) (by omega)
 ·subst hg
  dsimp only
  rw [Nat.pow_succ, ← Nat.mul_assoc] at c
  have h3 : 0 < df * 2 ^ rareF df docs := Nat.mul_pos h0 (Nat.two_pow_pos _)
  have h4 : df * 2 ^ rareF df docs ≤ 16 * 16 := Nat.mul_le_mul (by omega) (by have := zaS (n := 2) (by omega) a; omega)
  generalize df * 2 ^ rareF df docs = z at *
  rw [zb (by omega), zg, zf (fits_abs (by omega) (by omega)), zd (by omega), ze]
  exact Def.ret rfl
 ·subst hg
  dsimp only
  have hb := b n hn
  rw [Nat.pow_succ, ← Nat.mul_assoc] at hb
  have h3 : 0 < df * 2 ^ n := Nat.mul_pos h0 (Nat.two_pow_pos _)
  have hz : (((df * 2 ^ n : Nat) : Int)) * 2 = ((df * 2 ^ (n + 1) : Nat) : Int) := by rw [Nat.pow_succ, ← Nat.mul_assoc]; omega
  rw [zb (by omega), zg, zf (fits_abs (by omega) (by omega)), zb (by omega), zg, zf (fits_abs (by omega) (by omega)), zf (fits_nat (n := n) (by omega)), hz]
  exact hgo _ (by rw [cast_succ'])
def termUp (tf docs df : Nat) : Nat := 22 * tf * (rareF df docs + 1)
def termDown (tf long total docs : Nat) : Nat := 10 * tf + 3 + 9 * long * docs / total
def worth (tf long total docs df : Nat) : Nat :=
 let u := termUp tf docs df
 let d := termDown tf long total docs
 u / Nat.gcd u d * 1000 / (d / Nat.gcd u d)
structure Fair (tf long total docs df : Nat) : Prop where
 tf0 : 1 ≤ tf
 tf1 : tf ≤ long
 long1 : long ≤ 80
 docs1 : docs ≤ 16
 df0 : 1 ≤ df
 df1 : df ≤ docs
 total0 : long ≤ total
 total1 : total ≤ 1280
theorem Fair.up {tf long total docs df : Nat} (h : Fair tf long total docs df) : termUp tf docs df ≤ 8800 := by
 have h1 := (rare_ok h.df0 h.df1 h.docs1).1
 have := h.tf1; have := h.long1
 unfold termUp
 exact zau (Nat.mul_le_mul (by omega : 22 * tf ≤ 1760) (by omega : rareF df docs + 1 ≤ 5)) (by omega)
theorem Fair.mul {tf long total docs df : Nat} (h : Fair tf long total docs df) : 9 * long * docs ≤ 11520 := by
 have := h.long1
 exact zau (Nat.mul_le_mul (by omega : 9 * long ≤ 720) h.docs1) (by omega)
theorem Fair.down {tf long total docs df : Nat} (h : Fair tf long total docs df) : 0 < termDown tf long total docs ∧ termDown tf long total docs ≤ 12400 := by
 unfold termDown
 have h1 := h.mul
 have h2 := za5 (9 * long * docs) total
 have := h.tf1; have := h.long1
 generalize 9 * long * docs / total = z at *
 exact ⟨by omega, by omega⟩
theorem termScore_spec (N : Nat) (hN : 1048576 < N) {tf long total docs df : Nat} (h : Fair tf long total docs df) : i_TermScore_m N tf long total docs df = some (((termUp tf docs df / Nat.gcd (termUp tf docs df) (termDown tf long total docs) : Nat) : Int), ((termDown tf long total docs / Nat.gcd (termUp tf docs df) (termDown tf long total docs) : Nat) : Int), true) := by
 have t0 := h.tf0; have t1 := h.tf1; have t2 := h.long1; have t3 := h.docs1; have t4 := h.df0; have t5 := h.df1; have t6 := h.total0; have t7 := h.total1
 obtain ⟨a, b, c⟩ := rare_ok t4 t5 t3
 have hd := h.down
 have hu := h.up
 have hm := h.mul
 refine Def.get ?_
 unfold i_TermScore_m
 rw [within_spec, za, zb (by omega), zb (by omega), zaV, zn, ze]
 rw [within_spec, za, zb (by omega), zb (by omega), zaV, zn, ze]
 rw [within_spec, za, zb (by omega), zb (by omega), zaV, zn, ze]
 rw [within_spec, za, zb (by omega), zb (by omega), zaV, zn, ze]
 rw [within_spec, za, zb (by omega), zb (by omega), zaV, zn, ze]
 have hbits : IntKind.bits .i64 = 64 := rfl
 have hpow : ∀ n : Nat, n ≤ 4 → (df : Int) * 2 ^ (min ((n : Int) + 1).toNat (IntKind.bits .i64)) = ((df * 2 ^ (n + 1) : Nat) : Int) := fun n hn => by
  rw [hbits, show ((n : Int) + 1).toNat = n + 1 from by omega, Nat.min_eq_left (by omega), zbo, Int.natCast_pow]
  rfl
 have hsm : ∀ n : Nat, n ≤ 4 → df * 2 ^ (n + 1) ≤ 16 * 32 := fun n hn => Nat.mul_le_mul (by omega) (by have := zaS (n := 2) (by omega) (show n + 1 ≤ 5 by omega); omega)
 refine Def.upto (rareF df docs) (fun n g => g = ((tf : Int), (long : Int), (total : Int), (docs : Int), (df : Int), (n : Int), 0, 0)) (fun go g hg => ?_) (fun go n g hn hg hgo => ?_) N 0 _ (zaf _) rfl (by omega)
 ·subst hg
  dsimp only
  have hs := hsm _ a
  rw [zf (fits_nat (by omega)), zf (by omega), hpow _ a]
  rw [zf (fits_abs (by omega) (by omega)), zd (by omega), ze, zf (fits_abs (by omega) (by omega)), zf (fits_abs (by omega) (by omega))]
  have e1 : 22 * (tf : Int) * ((rareF df docs : Int) + 1) = ((termUp tf docs df : Nat) : Int) := by unfold termUp; rw [zbo, zbo]; rfl
  have e2 : 9 * (long : Int) * (docs : Int) = ((9 * long * docs : Nat) : Int) := by rw [zbo, zbo]; rfl
  have e3 : 10 * (tf : Int) + 3 + ((9 * long * docs / total : Nat) : Int) = ((termDown tf long total docs : Nat) : Int) := by unfold termDown; omega
  have hdv := za5 (9 * long * docs) total
  rw [e1, e2, tdiv_nat, e3]
  have hz : (0 : Int) ≤ ((9 * long * docs / total : Nat) : Int) ∧ ((9 * long * docs / total : Nat) : Int) ≤ 11520 := ⟨Int.natCast_nonneg _, by omega⟩
  generalize ((9 * long * docs / total : Nat) : Int) = z at *
  rw [zf (fits_abs (by omega) (by omega)), zf (fits_abs (by omega) (by omega)), zf (fits_abs (by omega) (by omega)), zf (fits_abs (by omega) (by omega)), zf (fits_abs (by omega) (by omega)), zf (by omega), zf (fits_abs (by omega) (by omega)), zf (fits_abs (by omega) (by omega)), ratOf_spec N _ _ (by omega) (by omega) hd.1 (by omega), za]
  exact Def.ret rfl
 ·subst hg
  dsimp only
  have hs := hsm n (by omega)
  have hb := b n hn
  rw [zf (fits_nat (by omega)), zf (by omega), hpow _ (by omega), zf (fits_abs (by omega) (by omega)), zb (by omega), zg, zf (fits_nat (by omega))]
  exact hgo _ (by rw [cast_succ'])
theorem l12Term_spec (N : Nat) (hN : 1048576 < N) {tf long total docs df : Nat} (h : Fair tf long total docs df) : s_l12Term_m N tf long total docs df = some (((termUp tf docs df / Nat.gcd (termUp tf docs df) (termDown tf long total docs) : Nat) : Int), ((termDown tf long total docs / Nat.gcd (termUp tf docs df) (termDown tf long total docs) : Nat) : Int)) := by
 have t0 := h.tf0; have t1 := h.tf1; have t2 := h.long1; have t3 := h.docs1; have t4 := h.df0; have t5 := h.df1; have t6 := h.total0; have t7 := h.total1
 obtain ⟨a, b, c⟩ := rare_ok t4 t5 t3
 have hd := h.down
 have hu := h.up
 have hm := h.mul
 have hdv := za5 (9 * long * docs) total
 refine Def.get ?_
 unfold s_l12Term_m
 refine Def.meet (fun g => g = ((tf : Int), (docs : Int), (df : Int), ((9 * long * docs / total : Nat) : Int), 0, 0)) (fun g hg => ?_) (fun J hJ => ?_)
 ·subst hg
  dsimp only
  rw [l12Rare_spec N df docs (by omega) t4 t5 t3, za]
  have e1 : (1 + (rareF df docs : Int)) * 22 * (tf : Int) = ((termUp tf docs df : Nat) : Int) := by unfold termUp; rw [zbo, zbo, Int.mul_assoc, Int.mul_comm]; congr 1; omega
  have e3 : 10 * (tf : Int) + 3 + ((9 * long * docs / total : Nat) : Int) = ((termDown tf long total docs : Nat) : Int) := by unfold termDown; omega
  rw [e1, e3]
  rw [zf (fits_abs (by omega) (by omega)), zf (fits_abs (by omega) (by omega)), zf (fits_abs (by omega) (by omega)), zf (fits_abs (by omega) (by omega)), zf (fits_abs (by omega) (by omega)), zf (fits_abs (by omega) (by omega)), make_spec N _ _ (by omega) hd.1 (by omega) (by omega), za]
  exact Def.ret rfl
 ·have e2 : (long : Int) * (docs : Int) * 9 = ((9 * long * docs : Nat) : Int) := by rw [zbo, zbo, Int.mul_comm, Int.mul_assoc]; rfl
  have e4 : (long : Int) * (docs : Int) = ((long * docs : Nat) : Int) := rfl
  have h5 : long * docs ≤ 1280 := zau (Nat.mul_le_mul t2 t3) (by omega)
  have hz : (0 : Int) ≤ ((9 * long * docs / total : Nat) : Int) ∧ ((9 * long * docs / total : Nat) : Int) ≤ 11520 := ⟨Int.natCast_nonneg _, by omega⟩
  rw [zb (by omega), zg, e2, tdiv_nat, e4]
  generalize ((9 * long * docs / total : Nat) : Int) = z at *
  rw [zf (fits_abs (by omega) (by omega)), zf (fits_abs (by omega) (by omega)), zf (by omega), zf (fits_abs (by omega) (by omega))]
  exact hJ _ rfl
theorem worth_impl (N : Nat) (hN : 1048576 < N) {tf long total docs df : Nat} (h : Fair tf long total docs df) : i_RatFloor_m N ((termUp tf docs df / Nat.gcd (termUp tf docs df) (termDown tf long total docs) : Nat) : Int) ((termDown tf long total docs / Nat.gcd (termUp tf docs df) (termDown tf long total docs) : Nat) : Int) 1000 = some (worth tf long total docs df : Int) := by
 have hd := h.down
 have hu := h.up
 have hg := gcd_pos' (a := termUp tf docs df) hd.1
 have h1 := za5 (termUp tf docs df) (Nat.gcd (termUp tf docs df) (termDown tf long total docs))
 have h2 := za5 (termDown tf long total docs) (Nat.gcd (termUp tf docs df) (termDown tf long total docs))
 have h3 : 0 < termDown tf long total docs / Nat.gcd (termUp tf docs df) (termDown tf long total docs) := Nat.div_pos (Nat.le_of_dvd hd.1 (Nat.gcd_dvd_right _ _)) hg
 rw [ratFloor_spec N _ _ (by omega) (by omega) h3 (by omega) (Nat.gcd_div_gcd_div_gcd_of_pos_right hd.1)]
 rfl
theorem worth_pos {tf long total docs df : Nat} (h : Fair tf long total docs df) : worth tf long total docs df ≤ 8800000 := by
 have hd := h.down
 have hu := h.up
 unfold worth
 dsimp only
 refine zau (za5 _ _) ?_
 have := za5 (termUp tf docs df) (Nat.gcd (termUp tf docs df) (termDown tf long total docs))
 omega
end Go.Proofs.YtcjbjmbialienaaGreatDoor
namespace Go.Proofs.YtcjbjmbialienaaGreatDoor
open Go.RowKit
theorem lead_drop (t : List UInt8) : ∀ x r, t.drop (lead t) = x :: r → isL x = false := by
 induction t with
 | nil => intro x r h; simp at h
 | cons c t ih =>
  intro x r h
  cases hc : isL c with
  | true => rw [lead_cons hc, List.drop_succ_cons] at h; exact ih x r h
  | false => rw [lead_zero hc, List.drop_zero, List.cons.injEq] at h; rw [← h.1]; exact hc
theorem wordsF_half (l : List UInt8) (p a : Int) : 2 * (wordsF l p a).length ≤ l.length + 1 := by
 match l with
 | [] => rw [wordsF_nil]; simp
 | c :: t =>
  rw [wordsF]
  split
  ·cases hr : t.drop (lead t) with
   | nil => rw [wordsF_nil]; simp
   | cons x r =>
    have hx := lead_drop t x r hr
    have hl : r.length + 1 ≤ t.length := by
     have := congrArg List.length hr
     simp only [zaQ, zi] at this
     omega
    rw [wordsF_skip hx]
    have := wordsF_half r (p + (lead t + 1 : Nat) + 1) (a + 1)
    simp only [zi] at this ⊢
    omega
  ·have := wordsF_half t (p + 1) a
   simp only [zi]; omega
termination_by l.length
decreasing_by all_goals (simp; try omega)
theorem terms_half (c : EConf) (s : List UInt8) (h : s.length ≤ 160) : (terms c s).length ≤ 80 := by
 have h1 : (terms c s).length ≤ (plain c.1 s).length := termsF_len _ _
 have h2 : (plain c.1 s).length ≤ (words s).length := za3 _ _
 have h3 := wordsF_half s 0 0
 unfold words at h2
 omega
def sumL (l : List Nat) : Nat := l.foldr (· + ·) 0
theorem sumL_cons (a : Nat) (l : List Nat) : sumL (a :: l) = a + sumL l := rfl
theorem sumL_append (a b : List Nat) : sumL (a ++ b) = sumL a + sumL b := by
 induction a with
 | nil => simp [sumL]
 | cons x a ih => rw [zbk, sumL_cons, ih, sumL_cons]; omega
theorem sumL_le (B : Nat) : ∀ l : List Nat, (∀ x, x ∈ l → x ≤ B) → sumL l ≤ l.length * B
 | [], _ => by simp [sumL]
 | x :: l, h => by
  have h1 := h x (by simp)
  have h2 := sumL_le B l fun y hy => h y (by simp [hy])
  rw [sumL_cons, zi, Nat.succ_mul]
  omega
theorem sumL_zero {α : Type} (f : α → Nat) : ∀ l : List α, (∀ x, x ∈ l → f x = 0) → sumL (l.map f) = 0
 | [], _ => rfl
 | x :: l, h => by rw [zv, sumL_cons, h x (by simp), sumL_zero f l fun y hy => h y (by simp [hy])]
theorem sumL_add {α : Type} (f g : α → Nat) : ∀ l : List α, sumL (l.map fun x => f x + g x) = sumL (l.map f) + sumL (l.map g)
 | [] => rfl
 | x :: l => by rw [zv, zv, zv, sumL_cons, sumL_cons, sumL_cons, sumL_add f g l]; omega
theorem sumL_swap {α β : Type} (f : α → β → Nat) (a : List α) : ∀ b : List β, sumL (a.map fun x => sumL (b.map fun y => f x y)) = sumL (b.map fun y => sumL (a.map fun x => f x y))
 | [] => by rw [List.map_nil]; exact sumL_zero _ _ fun x _ => rfl
 | y :: b => by
  rw [zv, sumL_cons, ← sumL_swap f a b, ← sumL_add]
  rfl
theorem sumL_mem {α : Type} (f : α → Nat) : ∀ (l : List α) (x : α), x ∈ l → f x ≤ sumL (l.map f)
 | y :: l, x, h => by
  rw [zv, sumL_cons]
  rcases zp.1 h with rfl | h
  ·omega
  ·have := sumL_mem f l x h; omega
def inField (field : List UInt8) (es : List EEntry) : List EEntry := es.filter fun e => decide (e.1 = field)
def lensOf (ps : List EPost) : Nat := sumL (ps.map fun p => p.2.length)
def longS (es : List EEntry) (field : List UInt8) (id : Int) : Nat := sumL ((inField field es).map fun e => lensOf (e.2.2.filter fun p => decide (p.1 = id)))
def totalS (es : List EEntry) (field : List UInt8) : Nat := sumL ((inField field es).map fun e => lensOf e.2.2)
theorem filter_both {α : Type} (p : α → Bool) : ∀ l : List α, (l.filter p).length + (l.filter fun x => !p x).length = l.length
 | [] => rfl
 | x :: l => by
  have ih := filter_both p l
  rw [za9, za9]
  cases h : p x
  ·simp only [za7, if_false, zaI, if_true, zi]; omega
  ·simp only [zn, za7, if_false, if_true, zi]; omega
theorem sum_cover : ∀ (T : List (List UInt8)) (ts : List ETerm), T.Nodup → (∀ t, t ∈ ts → t.1 ∈ T) → sumL (T.map fun k => (ts.filter fun t => decide (t.1 = k)).length) = ts.length
 | [], ts, _, h => by
  cases ts with
  | nil => rfl
  | cons t ts => exact absurd (h t (by simp)) (by simp)
 | k :: T, ts, hn, h => by
  rw [zbg] at hn
  rw [zv, sumL_cons]
  have h1 := sum_cover T (ts.filter fun t => !decide (t.1 = k)) hn.2 fun t ht => by
   obtain ⟨h2, h3⟩ := zaZ.1 ht
   rcases zp.1 (h t h2) with e | e
   ·rw [zb e] at h3; cases h3
   ·exact e
  have h2 : (T.map fun k' => ((ts.filter fun t => !decide (t.1 = k)).filter fun t => decide (t.1 = k')).length) = T.map fun k' => (ts.filter fun t => decide (t.1 = k')).length := by
   apply za0
   intro k' hk'
   have hne : k' ≠ k := fun e => hn.1 (e ▸ hk')
   rw [List.filter_filter]
   congr 1
   apply List.filter_congr
   intro t _
   by_cases e : t.1 = k'
   ·rw [zb e, zd (fun e2 => hne (e.symm.trans e2))]; rfl
   ·rw [zd e]; rfl
  rw [h2] at h1
  rw [h1, filter_both]
def tl (c : EConf) (field : List UInt8) (d : EDoc) : Nat := (terms c (fieldF d.2.1 field)).length
theorem ats_len (c : EConf) (d : EDoc) (k : EKey) : (ats c d k).length = ((terms c (fieldF d.2.1 k.1)).filter fun t => decide (t.1 = k.2)).length := by unfold ats; rw [zar]
theorem posts_sum (c : EConf) (P : Int → Bool) (k : EKey) : ∀ docs : List EDoc, lensOf ((postsS c docs k).filter fun p => P p.1) = sumL (docs.map fun d => if P d.1 = true then (ats c d k).length else 0)
 | [] => rfl
 | d :: l => by
  have ih := posts_sum c P k l
  rw [zv, sumL_cons, ← ih]
  unfold postsS
  rw [List.filterMap_cons]
  by_cases e : ats c d k = []
  ·rw [zf e, e]
   simp
  ·rw [zu e]
   dsimp only
   rw [za9]
   split
   ·rename_i hp
    unfold lensOf
    rw [zv, sumL_cons]
   ·rename_i hp
    rw [zaY]
theorem entry_posts {c : EConf} {docs : List EDoc} {e : EEntry} (he : e ∈ entriesS c docs) : e.2.2 = postsS c docs (e.1, e.2.1) := by
 unfold entriesS at he
 obtain ⟨f, _, he⟩ := zaT.1 he
 obtain ⟨t, _, rfl⟩ := zab.1 he
 rfl
theorem entries_nodup (c : EConf) (docs : List EDoc) : ((entriesS c docs).map keyE).Nodup := (entriesS_up c docs).imp fun {a b} h e => by rw [e, ltK_irrefl] at h; cases h
def termsIn (c : EConf) (docs : List EDoc) (field : List UInt8) : List (List UInt8) := (inField field (entriesS c docs)).map fun e => e.2.1
theorem termsIn_nodup (c : EConf) (docs : List EDoc) (field : List UInt8) : (termsIn c docs field).Nodup := by
 unfold termsIn inField
 have h := zbb.1 (entries_nodup c docs)
 refine zbb.2 ?_
 refine List.Pairwise.imp_of_mem (fun {a b} ha hb hab e => hab ?_) (h.sublist (List.filter_sublist (p := fun e : EEntry => decide (e.1 = field))))
 have h1 := of_decide_eq_true (zaZ.1 ha).2
 have h2 := of_decide_eq_true (zaZ.1 hb).2
 exact Prod.ext (h1.trans h2.symm) e
theorem term_in (c : EConf) {docs : List EDoc} (hd : DOk docs) (field : List UInt8) {d : EDoc} (h : d ∈ docs) {t : ETerm} (ht : t ∈ terms c (fieldF d.2.1 field)) : (field, t.1) ∈ (entriesS c docs).map keyE := by
 rw [entriesS_mem c hd.inn]
 by_cases hn : field ∈ d.2.1.map (·.1)
 ·obtain ⟨g, hg, rfl⟩ := zab.1 hn
  rw [fieldF_mem _ (hd.inn.names d h) g hg] at ht
  exact ⟨((g.1, t.1), d.1, t.2), zaT.2 ⟨d, h, zaT.2 ⟨g, hg, zab.2 ⟨t, ht, rfl⟩⟩⟩, rfl⟩
 ·rw [fieldF_none _ _ hn, terms_nil] at ht; cases ht
theorem term_cover (c : EConf) {docs : List EDoc} (hd : DOk docs) (field : List UInt8) {d : EDoc} (h : d ∈ docs) : ∀ t, t ∈ terms c (fieldF d.2.1 field) → t.1 ∈ termsIn c docs field := fun t ht => by
 obtain ⟨e, he, hk⟩ := zab.1 (term_in c hd field h ht)
 have h1 : e.1 = field := congrArg Prod.fst hk
 have h2 : e.2.1 = t.1 := congrArg Prod.snd hk
 exact zab.2 ⟨e, zaZ.2 ⟨he, zb h1⟩, h2⟩
theorem sum_posts (c : EConf) {docs : List EDoc} (hd : DOk docs) (P : Int → Bool) (field : List UInt8) : sumL ((inField field (entriesS c docs)).map fun e => lensOf (e.2.2.filter fun p => P p.1)) = sumL (docs.map fun d => if P d.1 = true then tl c field d else 0) := by
 have h1 : ((inField field (entriesS c docs)).map fun e => lensOf (e.2.2.filter fun p => P p.1)) = (termsIn c docs field).map fun t => sumL (docs.map fun d => if P d.1 = true then (ats c d (field, t)).length else 0) := by
  unfold termsIn
  rw [List.map_map]
  apply za0
  intro e he
  obtain ⟨h1, h2⟩ := zaZ.1 he
  show lensOf (e.2.2.filter fun p => P p.1) = sumL (docs.map fun d => if P d.1 = true then (ats c d (field, e.2.1)).length else 0)
  rw [entry_posts h1, of_decide_eq_true h2]
  exact posts_sum c P (field, e.2.1) docs
 rw [h1, sumL_swap]
 congr 1
 apply za0
 intro d hdm
 split
 ·have := sum_cover (termsIn c docs field) (terms c (fieldF d.2.1 field)) (termsIn_nodup c docs field) (term_cover c hd field hdm)
  rw [← show _ = tl c field d from this]
  congr 1
  apply za0
  intro t _
  exact ats_len c d (field, t)
 ·exact sumL_zero _ _ fun _ _ => rfl
def total (c : EConf) (docs : List EDoc) (field : List UInt8) : Nat := sumL (docs.map (tl c field))
def docOf (docs : List EDoc) (id : Int) : Option EDoc := docs.find? fun d => decide (d.1 = id)
def long (c : EConf) (docs : List EDoc) (field : List UInt8) (id : Int) : Nat := match docOf docs id with
 | some d => tl c field d
 | none => 0
theorem total_eq (c : EConf) {docs : List EDoc} (hd : DOk docs) (field : List UInt8) : totalS (entriesS c docs) field = total c docs field := by
 have h := sum_posts c hd (fun _ => true) field
 unfold totalS total
 rw [show (docs.map fun d => if (fun _ : Int => true) d.1 = true then tl c field d else 0) = docs.map (tl c field) from za0 fun d _ => zf rfl] at h
 rw [← h]
 congr 1
 apply za0
 intro e _
 rw [List.filter_eq_self.2 fun _ _ => rfl]
theorem find_uniq {id : Int} : ∀ {docs : List EDoc}, (docs.Pairwise fun a b => a.1 < b.1) → ∀ (f : EDoc → Nat), sumL (docs.map fun d => if decide (d.1 = id) = true then f d else 0) = match docOf docs id with
  | some d => f d
  | none => 0
 | [], _, f => rfl
 | d :: l, h, f => by
  rw [zas] at h
  rw [zv, sumL_cons]
  unfold docOf
  rw [zbA]
  by_cases e : d.1 = id
  ·rw [zb e, zf rfl, sumL_zero _ l fun x hx => zu (by have := h.1 x hx; simp; omega)]
   rfl
  ·rw [zd e, zu (by simp), find_uniq h.2 f]
   simp only [zaY]
   rfl
theorem long_eq (c : EConf) {docs : List EDoc} (hd : DOk docs) (field : List UInt8) (id : Int) : longS (entriesS c docs) field id = long c docs field id := by
 have h := sum_posts c hd (fun n => decide (n = id)) field
 rw [find_uniq hd.inn.ids] at h
 exact h
def postsP (es : List EEntry) (field term : List UInt8) : List EPost := match es.find? fun e => decide (e.1 = field) && decide (e.2.1 = term) with
 | some e => e.2.2
 | none => []
def atP (ps : List EPost) (id : Int) : List Int := match ps.find? fun p => decide (p.1 = id) with
 | some p => p.2
 | none => []
theorem postsP_eq (c : EConf) {docs : List EDoc} (hd : DOk docs) (field term : List UInt8) : postsP (entriesS c docs) field term = postsS c docs (field, term) := by
 unfold postsP
 cases h : (entriesS c docs).find? fun e => decide (e.1 = field) && decide (e.2.1 = term) with
 | some e =>
  have h1 := List.find?_some h
  rw [zj, zw, zw] at h1
  dsimp only
  rw [entry_posts (zbe h), h1.1, h1.2]
 | none =>
  dsimp only
  symm
  unfold postsS
  rw [List.filterMap_eq_nil_iff]
  intro d hdm
  have : ats c d (field, term) = [] := by
   unfold ats
   rw [List.map_eq_nil_iff, List.filter_eq_nil_iff]
   intro t ht hk
   have hm := term_in c hd field hdm ht
   rw [of_decide_eq_true hk] at hm
   obtain ⟨e, he, hke⟩ := zab.1 hm
   have := List.find?_eq_none.1 h e he
   rw [show e.1 = field from congrArg Prod.fst hke, show e.2.1 = term from congrArg Prod.snd hke] at this
   simp at this
  rw [zf this]
def atS (c : EConf) (docs : List EDoc) (k : EKey) (id : Int) : List Int := match docOf docs id with
 | some d => ats c d k
 | none => []
theorem atP_eq (c : EConf) (k : EKey) (id : Int) : ∀ {docs : List EDoc}, (docs.Pairwise fun a b => a.1 < b.1) → atP (postsS c docs k) id = atS c docs k id
 | [], _ => rfl
 | d :: l, h => by
  rw [zas] at h
  have ih := atP_eq c k id h.2
  unfold atS docOf
  rw [zbA]
  unfold postsS
  rw [List.filterMap_cons]
  by_cases e : d.1 = id
  ·rw [zb e]
   dsimp only
   by_cases ha : ats c d k = []
   ·rw [zf ha, ha]
    dsimp only
    unfold atP
    rw [List.find?_eq_none.2]
    intro p hp
    obtain ⟨x, hx, hpx⟩ := zbs.1 hp
    split at hpx
    ·cases hpx
    ·cases hpx
     have := h.1 x hx
     simp
     omega
   ·rw [zu ha]
    dsimp only
    unfold atP
    rw [zbA, zb e]
  ·rw [zd e]
   dsimp only
   unfold atS docOf at ih
   rw [← ih]
   by_cases ha : ats c d k = []
   ·rw [zf ha]
    rfl
   ·rw [zu ha]
    dsimp only
    unfold atP
    rw [zbA, zd e]
    rfl
def ptsF (c : EConf) (docs : List EDoc) (field term : List UInt8) (id : Int) : Nat :=
 if (atS c docs (field, term) id).length = 0 then 0 else worth (atS c docs (field, term) id).length (long c docs field id) (total c docs field) docs.length (postsS c docs (field, term)).length
theorem tl_le (c : EConf) {docs : List EDoc} (hd : DOk docs) (field : List UInt8) {d : EDoc} (h : d ∈ docs) : tl c field d ≤ 80 := terms_half c _ (hd.text h field)
theorem total_le (c : EConf) {docs : List EDoc} (hd : DOk docs) (field : List UInt8) : total c docs field ≤ 1280 := by
 unfold total
 refine zau (sumL_le 80 _ fun x hx => ?_) (by rw [zar]; have := hd.few; omega)
 obtain ⟨d, hdm, rfl⟩ := zab.1 hx
 exact tl_le c hd field hdm
theorem pts_fair (c : EConf) {docs : List EDoc} (hd : DOk docs) (field term : List UInt8) (id : Int) (h : (atS c docs (field, term) id).length ≠ 0) : Fair (atS c docs (field, term) id).length (long c docs field id) (total c docs field) docs.length (postsS c docs (field, term)).length := by
 unfold atS long at *
 cases hf : docOf docs id with
 | none => rw [hf] at h; exact absurd rfl h
 | some d =>
  rw [hf] at h
  dsimp only at *
  have hm : d ∈ docs := zbe hf
  have ht := tl_le c hd field hm
  have hle : (ats c d (field, term)).length ≤ tl c field d := by rw [ats_len]; exact zbh _ _
  have hp : (postsS c docs (field, term)).length ≤ docs.length := za3 _ _
  have hp1 : 1 ≤ (postsS c docs (field, term)).length := by
   have : (d.1, ats c d (field, term)) ∈ postsS c docs (field, term) := zbs.2 ⟨d, hm, by rw [zu (fun e => h (by rw [e]; rfl))]⟩
   exact List.length_pos_of_mem this
  exact ⟨by omega, hle, ht, hd.few, hp1, hp, sumL_mem (tl c field) docs d hm, total_le c hd field⟩
theorem ptsF_le (c : EConf) {docs : List EDoc} (hd : DOk docs) (field term : List UInt8) (id : Int) : ptsF c docs field term id ≤ 8800000 := by
 unfold ptsF
 split
 ·omega
 ·rename_i h
  exact worth_pos (pts_fair c hd field term id h)
end Go.Proofs.YtcjbjmbialienaaGreatDoor
namespace Go.Proofs.YtcjbjmbialienaaGreatDoor
open Go.RowKit
theorem scan_find {α δ ρ : Type} (F : (δ → Option ρ) → δ → Option ρ) (xs : List α) (st : Nat → δ) (p : α → Bool) (r : α → ρ) (r0 : ρ) (z : δ) (R : ρ) (hz : z = st 0) (hR : (xs.find? p).elim r0 r = R) (hend : ∀ go, F go (st xs.length) = some r0)
  (hstep : ∀ go (n : Nat) (h : n < xs.length), F go (st n) = bif p xs[n] then some (r xs[n]) else go (st (n + 1))) (N : Nat) (h : xs.length < N) : iter F N z = some R := by
 subst hz
 have := iter_scan F xs.length st (fun n => some (((xs.drop n).find? p).elim r0 r)) (fun go => by rw [hend, zbp]; rfl) (fun go n hn hgo => by
  rw [hstep go n hn, hgo, zan hn, zbA]
  cases p xs[n] <;> rfl) N 0 (zaf _) (by omega)
 rw [this, ← hR]
 rfl
theorem okDoc_each {docs : List EDoc} (h : okDocs docs = true) : ∀ d, d ∈ docs → okDoc d = true := fun d hd => by
 unfold okDocs at h
 rw [zj, zw] at h
 obtain ⟨n, hn, rfl⟩ := zav.1 hd
 have := allN_at h.1 hn
 unfold okDc at this
 rw [zj, ← dAt_eq hn] at this
 exact this.1
theorem okDoc_text {d : EDoc} (h : okDoc d = true) : d.2.1.length ≤ 3 ∧ d.2.2.length ≤ 3 ∧ ∀ f, f ∈ d.2.1 → okT f.2 = true := by
 unfold okDoc at h
 simp only [zj, zw] at h
 refine ⟨by omega, by omega, fun f hf => ?_⟩
 obtain ⟨n, hn, rfl⟩ := zav.1 hf
 have h3 := allN_at h.1.2 hn
 unfold okF at h3
 rw [zj, zj, ← fAt_eq hn] at h3
 exact h3.1.2
theorem fieldF_okT {fs : List EField} (h : ∀ f, f ∈ fs → okT f.2 = true) (name : List UInt8) : okT (fieldF fs name) = true := by
 induction fs with
 | nil => rfl
 | cons f l ih =>
  unfold fieldF
  split
  ·exact h f zy
  ·exact ih fun g hg => h g (zl _ hg)
structure GoodS (N : Nat) (c : EConf) (s : ESeg) : Prop where
 big : Sm < N
 top : N ≤ 16777216
 oc : okD Sm TConf c
 od : ∀ x, x ∈ s.1 → okD Sm TDoc x
 ok : okSeg c s = true
theorem okSeg_ok {c : EConf} {s : ESeg} (h : okSeg c s = true) : okConf c = true ∧ DOk s.1 ∧ s.2 = entriesS c s.1 := by
 unfold okSeg at h
 simp only [zj, zw] at h
 exact ⟨h.1, okDocs_ok h.2.1, h.2.2.symm⟩
theorem okSeg_docs {c : EConf} {s : ESeg} (h : okSeg c s = true) : okDocs s.1 = true := by
 unfold okSeg at h
 simp only [zj, zw] at h
 exact h.2.1
theorem GoodS.dok {N : Nat} {c : EConf} {s : ESeg} (h : GoodS N c s) : DOk s.1 := (okSeg_ok h.ok).2.1
theorem GoodS.ent {N : Nat} {c : EConf} {s : ESeg} (h : GoodS N c s) : s.2 = entriesS c s.1 := (okSeg_ok h.ok).2.2
theorem GoodS.m {N : Nat} {c : EConf} {s : ESeg} (h : GoodS N c s) : 1048576 < N := h.big
theorem GoodS.small {N : Nat} {c : EConf} {s : ESeg} (h : GoodS N c s) : Small 7680 s.2 := by rw [h.ent]; exact entries_small c h.dok
theorem docField_spec (N : Nat) (hM : Sm < N) (hN : N ≤ 16777216) (d : EDoc) (ho : okD Sm TDoc d) (hk : okDoc d = true) (name : List UInt8) : i_DocField_m N d.1 d.2.1 d.2.2 name = some (fieldF d.2.1 name) := by
 have hM' : 1048576 < N := hM
 have hl := (okDoc_text hk).1
 unfold i_DocField_m
 rw [docOk_spec N hM (by omega) d.1 d.2.1 d.2.2 ho, za, hk, zg]
 have hf : ∀ fs : List EField, (match fs.find? (fun f => decide (f.1 = name)) with
   | some f => f.2
   | none => []) = fieldF fs name := fun fs => by
  induction fs with
  | nil => rfl
  | cons f l ih =>
   unfold fieldF
   rw [zbA, ← ih]
   by_cases e : f.1 = name
   ·rw [zb e, zf e]
   ·rw [zd e, zu e]
 rw [← hf]
 refine scan_find _ d.2.1 (fun n => (name, d.2.1, (d.2.1.length : Int), (n : Int))) (fun f => decide (f.1 = name)) (·.2) [] _ _ rfl (by cases d.2.1.find? fun f => decide (f.1 = name) <;> rfl) (fun go => ?_) (fun go n hn => ?_) N (by omega)
 ·dsimp only
  rw [zd (zm _), ze]
 ·dsimp only
  rw [zb (by omega : (n : Int) < (d.2.1.length : Int)), zg, idx_at hn, za, zf (fits_nat (n := n) (by omega)), cast_succ']
theorem segDoc_spec (N : Nat) (s : ESeg) (id : Int) (h : s.1.length < N) (hN : N ≤ 16777216) : i_Seg_doc_m N s id = some (match docOf s.1 id with
  | some d => (d.1, d.2.1, d.2.2, true)
  | none => (0, [], [], false)) := by
 unfold i_Seg_doc_m docOf
 refine scan_find _ s.1 (fun n => (id, s.1, (s.1.length : Int), (n : Int), (0 : Int))) (fun d => decide (d.1 = id)) (fun d : EDoc => (d.1, d.2.1, d.2.2, true)) (0, [], [], false) _ _ rfl (by cases s.1.find? fun d => decide (d.1 = id) <;> rfl) (fun go => ?_) (fun go n hn => ?_) N h
 ·dsimp only
  rw [zd (zm _), ze]
 ·dsimp only
  rw [zb (by omega : (n : Int) < (s.1.length : Int)), zg, idx_at hn, za, zf (fits_nat (n := n) (by omega)), cast_succ']
theorem segLong_spec (N : Nat) {c : EConf} {s : ESeg} (g : GoodS N c s) (field : List UInt8) (id : Int) : i_Seg_long_m N s c.1 c.2 field id = some (long c s.1 field id : Int) := by
 have hM := g.m
 have hN := g.top
 have hf := g.dok.few
 unfold i_Seg_long_m long
 rw [segDoc_spec N s id (by omega) hN, za]
 cases h : docOf s.1 id with
 | none => rfl
 | some d =>
  dsimp only
  have hm : d ∈ s.1 := zbe h
  have hk := okDoc_each (okSeg_docs g.ok) d hm
  have hlen := g.dok.text hm field
  rw [zn, ze, docField_spec N g.big hN d (g.od d hm) hk field, za, termsOf_spec N c _ (by omega) g.big (by omega) g.oc, (okSeg_ok g.ok).1, fieldF_okT (okDoc_text hk).2.2 field, zaV, zg, za]
  rfl
theorem segPosts_spec (N : Nat) (s : ESeg) (field term : List UInt8) (h : s.2.length < N) (hN : N ≤ 16777216) : i_Seg_posts_m N s field term = some (postsP s.2 field term) := by
 unfold i_Seg_posts_m postsP
 refine scan_find _ s.2 (fun n => (field, term, s.2, (s.2.length : Int), (n : Int))) (fun e => decide (e.1 = field) && decide (e.2.1 = term)) (·.2.2) [] _ _ rfl (by cases s.2.find? fun e => decide (e.1 = field) && decide (e.2.1 = term) <;> rfl) (fun go => ?_) (fun go n hn => ?_) N h
 ·dsimp only
  rw [zd (zm _), ze]
 ·dsimp only
  rw [zb (by omega : (n : Int) < (s.2.length : Int)), zg, idx_at hn, za, zf (fits_nat (n := n) (by omega)), cast_succ']
  by_cases h1 : s.2[n].1 = field
  ·rw [zb h1, zg, zaj]
  ·rw [zd h1, ze, Bool.false_and, ze]
theorem l7Posts_spec (N : Nat) (s : ESeg) (field term : List UInt8) (h : s.2.length < N) (hN : N ≤ 16777216) : s_l7Posts_m N s.1 s.2 field term = some (postsP s.2 field term) := by
 unfold s_l7Posts_m postsP
 refine scan_find _ s.2 (fun n => (field, term, (n : Int), s.1, s.2)) (fun e => decide (e.1 = field) && decide (e.2.1 = term)) (·.2.2) [] _ _ rfl (by cases s.2.find? fun e => decide (e.1 = field) && decide (e.2.1 = term) <;> rfl) (fun go => ?_) (fun go n hn => ?_) N h
 ·dsimp only
  rw [zd (zm _), ze]
 ·dsimp only
  rw [zb (by omega : (n : Int) < (s.2.length : Int)), zg, idx_at hn, za, za, za, zf (fits_nat (n := n) (by omega)), cast_succ']
  by_cases h1 : s.2[n].1 = field
  ·rw [zb h1, zg, zaj]
  ·rw [zd h1, ze, Bool.false_and, ze]
theorem postsP_len {es : List EEntry} {m : Nat} (h : Small m es) (field term : List UInt8) : (postsP es field term).length ≤ m := by
 unfold postsP
 cases hf : es.find? fun e => decide (e.1 = field) && decide (e.2.1 = term) with
 | none => simp
 | some e => exact (h.2 e (zbe hf)).1
theorem places_spec (N : Nat) {c : EConf} {s : ESeg} (g : GoodS N c s) (x : EConf) (field term : List UInt8) (id : Int) : i_scorer_places_m N (x, s) field term id = some (atS c s.1 (field, term) id) := by
 have hM := g.m
 have hN := g.top
 have hsl := g.small.1
 have hpl := postsP_len g.small field term
 unfold i_scorer_places_m
 rw [segPosts_spec N s field term (by omega) hN, za]
 have h := atP_eq c (field, term) id g.dok.inn.ids
 rw [← postsP_eq c g.dok, ← g.ent] at h
 rw [← h]
 unfold atP
 generalize postsP s.2 field term = ps at *
 refine scan_find _ ps (fun n => (id, ps, (ps.length : Int), (n : Int))) (fun p => decide (p.1 = id)) (·.2) [] _ _ rfl (by cases ps.find? fun p => decide (p.1 = id) <;> rfl) (fun go => ?_) (fun go n hn => ?_) N (by omega)
 ·dsimp only
  rw [zd (zm _), ze]
 ·dsimp only
  rw [zb (by omega : (n : Int) < (ps.length : Int)), zg, idx_at hn, za, zf (fits_nat (n := n) (by omega)), cast_succ']
theorem l12At_spec (N : Nat) {c : EConf} {s : ESeg} (g : GoodS N c s) (field term : List UInt8) (id : Int) : s_l12At_m N s.1 s.2 field term id = some (atS c s.1 (field, term) id) := by
 have hM := g.m
 have hN := g.top
 have hsl := g.small.1
 have hpl := postsP_len g.small field term
 unfold s_l12At_m
 rw [l7Posts_spec N s field term (by omega) hN, za]
 have h := atP_eq c (field, term) id g.dok.inn.ids
 rw [← postsP_eq c g.dok, ← g.ent] at h
 rw [← h]
 unfold atP
 generalize postsP s.2 field term = ps at *
 refine scan_find _ ps (fun n => (id, ps, (n : Int))) (fun p => decide (p.1 = id)) (·.2) [] _ _ rfl (by cases ps.find? fun p => decide (p.1 = id) <;> rfl) (fun go => ?_) (fun go n hn => ?_) N (by omega)
 ·dsimp only
  rw [zd (zm _), ze]
 ·dsimp only
  rw [zb (by omega : (n : Int) < (ps.length : Int)), zg, idx_at hn, za, za, zf (fits_nat (n := n) (by omega)), cast_succ']
theorem lens_le {m : Nat} {ps : List EPost} (h1 : ps.length ≤ m) (h2 : ∀ p, p ∈ ps → p.2.length ≤ m) : lensOf ps ≤ m * m := by
 unfold lensOf
 refine zau (sumL_le m _ fun x hx => ?_) (by rw [zar]; exact zag m h1)
 obtain ⟨p, hp, rfl⟩ := zab.1 hx
 exact h2 p hp
theorem l12Total_spec (N : Nat) {c : EConf} {s : ESeg} (g : GoodS N c s) (field : List UInt8) : s_l12Total_m N s.1 s.2 field = some (total c s.1 field : Int) := by
 have hM := g.m
 have hN := g.top
 have hsm := g.small
 rw [← total_eq c g.dok, ← g.ent]
 let ins : EEntry → Nat := fun e => if e.1 = field then lensOf e.2.2 else 0
 have hins : ∀ es : List EEntry, totalS es field = sumL (es.map ins) := fun es => by
  unfold totalS inField
  induction es with
  | nil => rfl
  | cons e es ih =>
   rw [zv, sumL_cons, ← ih, za9]
   by_cases h : e.1 = field
   ·rw [zf (zb h), zv, sumL_cons, show ins e = lensOf e.2.2 from zf h]
   ·rw [zu (by simp [h]), show ins e = 0 from zu h, zaY]
 have hb : ∀ e, e ∈ s.2 → ins e ≤ 7680 * 7680 := fun e he => by
  show (if e.1 = field then lensOf e.2.2 else 0) ≤ _
  split
  ·exact lens_le (hsm.2 e he).1 (hsm.2 e he).2
  ·omega
 have hpre : ∀ n, sumL ((s.2.take n).map ins) ≤ 7680 * (7680 * 7680) := fun n => by
  refine zau (sumL_le (7680 * 7680) _ fun x hx => ?_) (zag _ ?_)
  ·obtain ⟨e, he, rfl⟩ := zab.1 hx
   exact hb e (zaP he)
  ·rw [zar, zah]; have := hsm.1; omega
 refine Def.get ?_
 unfold s_l12Total_m
 refine Def.upto s.2.length (fun n v => v = (field, ((sumL ((s.2.take n).map ins) : Nat) : Int), (n : Int), s.1, s.2)) (fun go v hv => ?_) (fun go n v hn hv hgo => ?_) N 0 _ (zaf _) rfl (by have := hsm.1; omega)
 ·subst hv
  dsimp only
  rw [zd (zm _), ze, zq]
  exact Def.ret (by rw [hins])
 ·subst hv
  dsimp only
  have hm : s.2[n] ∈ s.2 := zr hn
  have hse := hsm.2 _ hm
  have hstep : sumL ((s.2.take (n + 1)).map ins) = sumL ((s.2.take n).map ins) + ins s.2[n] := by
   rw [zo hn, zaK, sumL_append]
   rfl
  have hp1 := hpre n
  rw [zb (by omega : (n : Int) < (s.2.length : Int)), zg]
  have hsl := hsm.1
  have hback : ∀ k : Nat, k = ins s.2[n] → Def (if fits ((n : Int) + 1) then go (field, ((sumL ((s.2.take n).map ins) + k : Nat) : Int), (n : Int) + 1, s.1, s.2) else none) fun r => r = (totalS s.2 field : Int) := fun k hk => by
   rw [zf (fits_nat (n := n) (by omega))]
   exact hgo _ (by rw [hstep, hk, cast_succ'])
  generalize sumL ((s.2.take n).map ins) = acc at *
  by_cases hf : s.2[n].1 = field
  ·have hi : ins s.2[n] = lensOf s.2[n].2.2 := zf hf
   have hpl : ∀ j, lensOf (s.2[n].2.2.take j) ≤ 7680 * 7680 := fun j => lens_le (by rw [zah]; omega) fun p hp => hse.2 p (zaP hp)
   refine Def.upto s.2[n].2.2.length (fun j v => v = (field, ((acc + lensOf (s.2[n].2.2.take j) : Nat) : Int), (n : Int), (j : Int), s.1, s.2)) (fun go2 v hv => ?_) (fun go2 j v hj hv hgo2 => ?_) N 0 _ (zaf _) rfl (by omega)
   ·subst hv
    dsimp only
    rw [idx_at hn, za, zd (zm _), ze, zq]
    exact hback _ hi.symm
   ·subst hv
    dsimp only
    have hpj := hse.2 _ (zr hj)
    have hl := hpl j
    rw [idx_at hn, za, zb (by omega : (j : Int) < (s.2[n].2.2.length : Int)), zg, za, zb hf, zg, za, idx_at hj, za, zf (fits_abs (by omega) (by omega)), zf (fits_nat (n := j) (by omega))]
    refine hgo2 _ ?_
    have hls : lensOf (s.2[n].2.2.take (j + 1)) = lensOf (s.2[n].2.2.take j) + s.2[n].2.2[j].2.length := by
     unfold lensOf
     rw [zo hj, zaK, sumL_append]
     rfl
    rw [hls, cast_succ', ← zbv, Int.natCast_add (acc + _)]
  ·have hi : ins s.2[n] = 0 := zu hf
   have h0 := hback 0 hi.symm
   rw [zbz] at h0
   cases N with
   | zero => omega
   | succ N =>
    show Def (Option.bind (idx s.2 n) _) _
    rw [idx_at hn, za]
    by_cases hz : (0 : Int) < (s.2[n].2.2.length : Int)
    ·rw [zb hz, zg, za]
     dsimp only
     rw [zd hf, ze]
     exact h0
    ·rw [zd hz, ze]
     exact h0
theorem l7Long_spec (N : Nat) {c : EConf} {s : ESeg} (g : GoodS N c s) (field : List UInt8) (id : Int) : s_l7Long_m N s.1 s.2 field id = some (long c s.1 field id : Int) := by
 have hM := g.m
 have hN := g.top
 have hsm := g.small
 rw [← long_eq c g.dok, ← g.ent]
 let inp : List EPost → Nat := fun ps => lensOf (ps.filter fun p => decide (p.1 = id))
 have hinp : ∀ (ps : List EPost) (j : Nat) (hj : j < ps.length), inp (ps.take (j + 1)) = inp (ps.take j) + (if ps[j].1 = id then ps[j].2.length else 0) := fun ps j hj => by
  show lensOf _ = lensOf _ + _
  rw [zo hj, za6]
  unfold lensOf
  rw [zaK, sumL_append]
  congr 1
  by_cases e : ps[j].1 = id
  ·rw [zf e, za9, zf (zb e)]; rfl
  ·rw [zu e, za9, zu (by simp [e])]; rfl
 let ins : EEntry → Nat := fun e => if e.1 = field then inp e.2.2 else 0
 have hins : ∀ es : List EEntry, longS es field id = sumL (es.map ins) := fun es => by
  unfold longS inField
  induction es with
  | nil => rfl
  | cons e es ih =>
   rw [zv, sumL_cons, ← ih, za9]
   by_cases h : e.1 = field
   ·rw [zf (zb h), zv, sumL_cons, show ins e = inp e.2.2 from zf h]
   ·rw [zu (by simp [h]), show ins e = 0 from zu h, zaY]
 have hib : ∀ (ps : List EPost), ps.length ≤ 7680 → (∀ p, p ∈ ps → p.2.length ≤ 7680) → inp ps ≤ 7680 * 7680 := fun ps h1 h2 =>
  lens_le (zau (zbh _ _) h1) fun p hp => h2 p (zaZ.1 hp).1
 have hb : ∀ e, e ∈ s.2 → ins e ≤ 7680 * 7680 := fun e he => by
  show (if e.1 = field then inp e.2.2 else 0) ≤ _
  split
  ·exact hib _ (hsm.2 e he).1 (hsm.2 e he).2
  ·omega
 have hpre : ∀ n, sumL ((s.2.take n).map ins) ≤ 7680 * (7680 * 7680) := fun n => by
  refine zau (sumL_le (7680 * 7680) _ fun x hx => ?_) (zag _ ?_)
  ·obtain ⟨e, he, rfl⟩ := zab.1 hx
   exact hb e (zaP he)
  ·rw [zar, zah]; have := hsm.1; omega
 refine Def.get ?_
 unfold s_l7Long_m
 refine Def.upto s.2.length (fun n v => v = (field, id, ((sumL ((s.2.take n).map ins) : Nat) : Int), (n : Int), s.1, s.2)) (fun go v hv => ?_) (fun go n v hn hv hgo => ?_) N 0 _ (zaf _) rfl (by have := hsm.1; omega)
 ·subst hv
  dsimp only
  rw [zd (zm _), ze, zq]
  exact Def.ret (by rw [hins])
 ·subst hv
  dsimp only
  have hm : s.2[n] ∈ s.2 := zr hn
  have hse := hsm.2 _ hm
  have hstep : sumL ((s.2.take (n + 1)).map ins) = sumL ((s.2.take n).map ins) + ins s.2[n] := by
   rw [zo hn, zaK, sumL_append]
   rfl
  have hp1 := hpre n
  rw [zb (by omega : (n : Int) < (s.2.length : Int)), zg]
  have hsl := hsm.1
  have hback : ∀ k : Nat, k = ins s.2[n] → Def (if fits ((n : Int) + 1) then go (field, id, ((sumL ((s.2.take n).map ins) + k : Nat) : Int), (n : Int) + 1, s.1, s.2) else none) fun r => r = (longS s.2 field id : Int) := fun k hk => by
   rw [zf (fits_nat (n := n) (by omega))]
   exact hgo _ (by rw [hstep, hk, cast_succ'])
  generalize sumL ((s.2.take n).map ins) = acc at *
  by_cases hf : s.2[n].1 = field
  ·have hi : ins s.2[n] = inp s.2[n].2.2 := zf hf
   have hpl : ∀ j, inp (s.2[n].2.2.take j) ≤ 7680 * 7680 := fun j => hib _ (by rw [zah]; omega) fun p hp => hse.2 p (zaP hp)
   refine Def.upto s.2[n].2.2.length (fun j v => v = (field, id, ((acc + inp (s.2[n].2.2.take j) : Nat) : Int), (n : Int), (j : Int), s.1, s.2)) (fun go2 v hv => ?_) (fun go2 j v hj hv hgo2 => ?_) N 0 _ (zaf _) rfl (by omega)
   ·subst hv
    dsimp only
    rw [idx_at hn, za, zd (zm _), ze, zq]
    exact hback _ hi.symm
   ·subst hv
    dsimp only
    have hpj := hse.2 _ (zr hj)
    have hl := hpl j
    have hls := hinp s.2[n].2.2 j hj
    rw [idx_at hn, za, zb (by omega : (j : Int) < (s.2[n].2.2.length : Int)), zg, za, zb hf, zg, za, idx_at hj, za]
    by_cases e : s.2[n].2.2[j].1 = id
    ·rw [zb e, zg, za, idx_at hj, za, zf (fits_abs (by omega) (by omega)), zf (fits_nat (n := j) (by omega))]
     refine hgo2 _ ?_
     rw [zf e] at hls
     rw [hls, cast_succ', ← zbv, Int.natCast_add (acc + _)]
    ·rw [zd e, ze, zf (fits_nat (n := j) (by omega))]
     refine hgo2 _ ?_
     rw [zu e] at hls
     rw [hls, cast_succ', zbz]
  ·have hi : ins s.2[n] = 0 := zu hf
   have h0 := hback 0 hi.symm
   rw [zbz] at h0
   cases N with
   | zero => omega
   | succ N =>
    show Def (Option.bind (idx s.2 n) _) _
    rw [idx_at hn, za]
    by_cases hz : (0 : Int) < (s.2[n].2.2.length : Int)
    ·rw [zb hz, zg, za]
     dsimp only
     rw [zd hf, ze]
     exact h0
    ·rw [zd hz, ze]
     exact h0
theorem l12Points_spec (N : Nat) {c : EConf} {s : ESeg} (g : GoodS N c s) (field term : List UInt8) (id : Int) : s_l12Points_m N s.1 s.2 field term id = some (ptsF c s.1 field term id : Int) := by
 have hM := g.m
 have hN := g.top
 have hsl := g.small.1
 have hf := fun h => pts_fair c g.dok field term id h
 unfold s_l12Points_m ptsF
 rw [l12At_spec N g field term id, za]
 by_cases h : (atS c s.1 (field, term) id).length = 0
 ·rw [zb (by omega), zg, zf h]; rfl
 ·have hq := hf h
  have hd := hq.down
  have hu := hq.up
  have hgp := gcd_pos' (a := termUp (atS c s.1 (field, term) id).length s.1.length (postsS c s.1 (field, term)).length) hd.1
  have h1 := za5 (termUp (atS c s.1 (field, term) id).length s.1.length (postsS c s.1 (field, term)).length) (Nat.gcd (termUp (atS c s.1 (field, term) id).length s.1.length (postsS c s.1 (field, term)).length) (termDown (atS c s.1 (field, term) id).length (long c s.1 field id) (total c s.1 field) s.1.length))
  have h3 : 0 < termDown (atS c s.1 (field, term) id).length (long c s.1 field id) (total c s.1 field) s.1.length / Nat.gcd (termUp (atS c s.1 (field, term) id).length s.1.length (postsS c s.1 (field, term)).length) (termDown (atS c s.1 (field, term) id).length (long c s.1 field id) (total c s.1 field) s.1.length) := Nat.div_pos (Nat.le_of_dvd hd.1 (Nat.gcd_dvd_right _ _)) hgp
  rw [zd (by omega), ze, zu h, l7Long_spec N g, za, l12Total_spec N g, za, l7Posts_spec N s field term (by omega) hN, za, g.ent, postsP_eq c g.dok, l12Term_spec N hM hq, za]
  dsimp only
  unfold worth
  dsimp only
  generalize termUp (atS c s.1 (field, term) id).length s.1.length (postsS c s.1 (field, term)).length / Nat.gcd (termUp (atS c s.1 (field, term) id).length s.1.length (postsS c s.1 (field, term)).length) (termDown (atS c s.1 (field, term) id).length (long c s.1 field id) (total c s.1 field) s.1.length) = u at *
  generalize termDown (atS c s.1 (field, term) id).length (long c s.1 field id) (total c s.1 field) s.1.length / Nat.gcd (termUp (atS c s.1 (field, term) id).length s.1.length (postsS c s.1 (field, term)).length) (termDown (atS c s.1 (field, term) id).length (long c s.1 field id) (total c s.1 field) s.1.length) = v at *
  rw [show (u : Int) * 1000 = ((u * 1000 : Nat) : Int) from by omega, zf (fits_abs (by omega) (by omega)), zf (by omega), zf (fits_div (by omega)), tdiv_nat]
theorem points_spec (N : Nat) {c : EConf} {s : ESeg} (g : GoodS N c s) (field term : List UInt8) (id : Int) : i_scorer_points_m N (c, s) field term id = some (ptsF c s.1 field term id : Int) := by
 have hM := g.m
 have hN := g.top
 have hsl := g.small.1
 have hfew := g.dok.few
 have hf := fun h => pts_fair c g.dok field term id h
 refine Def.get ?_
 unfold i_scorer_points_m ptsF
 rw [places_spec N g c field term id, za]
 by_cases h : (atS c s.1 (field, term) id).length = 0
 ·rw [zb (by omega), zg, zf h]
  exact Def.ret rfl
 ·have hq := hf h
  have htl : ∀ n, sumL ((s.1.take n).map (tl c field)) ≤ 16 * 80 := fun n => by
   refine zau (sumL_le 80 _ fun x hx => ?_) (zag 80 ?_)
   ·obtain ⟨d, hd, rfl⟩ := zab.1 hx
    exact tl_le c g.dok field (zaP hd)
   ·rw [zar, zah]; omega
  rw [zd (by omega), ze, zu h]
  generalize atS c s.1 (field, term) id = at' at *
  refine Def.upto s.1.length (fun n v => v = ((c, s), field, term, id, at', ((sumL ((s.1.take n).map (tl c field)) : Nat) : Int), s.1, (s.1.length : Int), (n : Int))) (fun go v hv => ?_) (fun go n v hn hv hgo => ?_) N 0 _ (zaf _) rfl (by omega)
  ·subst hv
   dsimp only
   rw [zd (zm _), ze, zq, segLong_spec N g, za, segPosts_spec N s field term (by omega) hN, za, g.ent, postsP_eq c g.dok, show sumL (s.1.map (tl c field)) = total c s.1 field from rfl, termScore_spec N hM hq, za]
   dsimp only
   rw [worth_impl N hM hq, za]
   exact Def.ret rfl
  ·subst hv
   dsimp only
   have hl1 := htl n
   have hmem : s.1[n] ∈ s.1 := zr hn
   have hlong : long c s.1 field s.1[n].1 = tl c field s.1[n] := by
    unfold long docOf
    have : (s.1.find? fun d => decide (d.1 = s.1[n].1)) = some s.1[n] := by
     cases hfd : s.1.find? fun d => decide (d.1 = s.1[n].1) with
     | none => have := List.find?_eq_none.1 hfd _ hmem; simp at this
     | some d =>
      have h1 : d.1 = s.1[n].1 := of_decide_eq_true (List.find?_some (p := fun d : EDoc => decide (d.1 = s.1[n].1)) hfd)
      obtain ⟨m, hm, rfl⟩ := zav.1 (zbe hfd)
      have hp := za2.1 g.dok.inn.ids
      rcases zbl m n with hlt | hlt | hlt
      ·have := hp m n hm hn hlt; omega
      ·subst hlt; rfl
      ·have := hp n m hn hm hlt; omega
    rw [this]
   have htn := tl_le c g.dok field hmem
   rw [zb (by omega : (n : Int) < (s.1.length : Int)), zg, idx_at hn, za, segLong_spec N g, za, hlong, zf (fits_abs (by omega) (by omega)), zf (fits_nat (n := n) (by omega))]
   refine hgo _ ?_
   rw [zo hn, zaK, sumL_append, cast_succ', Int.natCast_add]
   rfl
end Go.Proofs.YtcjbjmbialienaaGreatDoor
namespace Go.Proofs.YtcjbjmbialienaaGreatDoor
open Go.RowKit
theorem places2_spec (N : Nat) {c : EConf} {s : ESeg} (g : GoodS N c s) (field term : List UInt8) (id : Int) : i_scorer_places_v2_m N (some (c.1, c.2, s.1, s.2)) field term id = some (atS c s.1 (field, term) id) := places_spec N g c field term id
theorem points2_spec (N : Nat) {c : EConf} {s : ESeg} (g : GoodS N c s) (field term : List UInt8) (id : Int) : i_scorer_points_v2_m N (some (c.1, c.2, s.1, s.2)) field term id = some (ptsF c s.1 field term id : Int) := by
 have hM := g.m
 have hN := g.top
 have hsl := g.small.1
 have hfew := g.dok.few
 have hf := fun h => pts_fair c g.dok field term id h
 refine Def.get ?_
 unfold i_scorer_points_v2_m ptsF
 rw [places2_spec N g field term id, za]
 by_cases h : (atS c s.1 (field, term) id).length = 0
 ·rw [zb (by omega), zg, zf h]
  exact Def.ret rfl
 ·have hq := hf h
  have htl : ∀ n, sumL ((s.1.take n).map (tl c field)) ≤ 16 * 80 := fun n => by
   refine zau (sumL_le 80 _ fun x hx => ?_) (zag 80 ?_)
   ·obtain ⟨d, hd, rfl⟩ := zab.1 hx
    exact tl_le c g.dok field (zaP hd)
   ·rw [zar, zah]; omega
  rw [zd (by omega), ze, zu h, za]
  generalize atS c s.1 (field, term) id = at' at *
  refine Def.upto s.1.length (fun n v => v = (some (c.1, c.2, s.1, s.2), field, term, id, at', ((sumL ((s.1.take n).map (tl c field)) : Nat) : Int), s.1, (s.1.length : Int), (n : Int))) (fun go v hv => ?_) (fun go n v hn hv hgo => ?_) N 0 _ (zaf _) rfl (by omega)
  ·subst hv
   dsimp only
   rw [zd (zm _), ze, zq, za, za, segLong_spec N g, za, za, za, segPosts_spec N s field term (by omega) hN, za, g.ent, postsP_eq c g.dok, show sumL (s.1.map (tl c field)) = total c s.1 field from rfl, termScore_spec N hM hq, za]
   dsimp only
   rw [worth_impl N hM hq, za]
   exact Def.ret rfl
  ·subst hv
   dsimp only
   have hl1 := htl n
   have hmem : s.1[n] ∈ s.1 := zr hn
   have hlong : long c s.1 field s.1[n].1 = tl c field s.1[n] := by
    unfold long docOf
    have : (s.1.find? fun d => decide (d.1 = s.1[n].1)) = some s.1[n] := by
     cases hfd : s.1.find? fun d => decide (d.1 = s.1[n].1) with
     | none => have := List.find?_eq_none.1 hfd _ hmem; simp at this
     | some d =>
      have h1 : d.1 = s.1[n].1 := of_decide_eq_true (List.find?_some (p := fun d : EDoc => decide (d.1 = s.1[n].1)) hfd)
      obtain ⟨m, hm, rfl⟩ := zav.1 (zbe hfd)
      have hp := za2.1 g.dok.inn.ids
      rcases zbl m n with hlt | hlt | hlt
      ·have := hp m n hm hn hlt; omega
      ·subst hlt; rfl
      ·have := hp n m hn hm hlt; omega
    rw [this]
   have htn := tl_le c g.dok field hmem
   rw [zb (by omega : (n : Int) < (s.1.length : Int)), zg, idx_at hn, za, za, za, segLong_spec N g, za, hlong, zf (fits_abs (by omega) (by omega)), zf (fits_nat (n := n) (by omega))]
   refine hgo _ ?_
   rw [zo hn, zaK, sumL_append, cast_succ', Int.natCast_add]
   rfl
theorem compareI_spec (N : Nat) (x y : Int) : k_cmp_Compare_992_m N x y = some (if x < y then -1 else if y < x then 1 else 0) := by
 simp only [k_cmp_Compare_992_m, k_cmp_isNaN_538_m, za, decide_true, zn, ze]
 by_cases h : x < y
 ·simp [h]
 ·by_cases h2 : y < x <;> simp [h, h2]
def ltT (p : List UInt8 → Nat) (a b : List UInt8) : Bool := decide (p b < p a) || (decide (p a = p b) && Op.bytesLess a b)
theorem ltT_irrefl (p : List UInt8 → Nat) (a : List UInt8) : ltT p a a = false := by unfold ltT; rw [bl_irrefl, Bool.and_false, zd (Nat.lt_irrefl _)]; rfl
theorem ltT_trans (p : List UInt8 → Nat) {a b c : List UInt8} (h : ltT p a b = true) (k : ltT p b c = true) : ltT p a c = true := by
 unfold ltT at *
 simp only [za1, zj, zw] at *
 rcases h with h | ⟨h, h'⟩ <;> rcases k with k | ⟨k, k'⟩
 ·left; omega
 ·left; omega
 ·left; omega
 ·right; exact ⟨by omega, bl_trans h' k'⟩
theorem ltT_asym (p : List UInt8 → Nat) {a b : List UInt8} (h : ltT p a b = true) : ltT p b a = false := by
 cases h2 : ltT p b a
 ·rfl
 ·have := ltT_trans p h h2
  rw [ltT_irrefl] at this
  cases this
theorem ltT_total (p : List UInt8 → Nat) {a b : List UInt8} (h : a ≠ b) : ltT p a b = true ∨ ltT p b a = true := by
 unfold ltT
 simp only [za1, zj, zw]
 rcases zbl (p a) (p b) with h1 | h1 | h1
 ·right; left; exact h1
 ·cases h2 : Op.bytesLess a b
  ·right; right; exact ⟨h1.symm, bl_total h2 h⟩
  ·left; right; exact ⟨h1, rfl⟩
 ·left; left; exact h1
theorem ltT_ordr (p : List UInt8 → Nat) : Ordr (ltT p) := ⟨fun x y h => ltT_asym p h, fun x y z h k => ltT_trans p h k⟩
def insT (p : List UInt8 → Nat) (l : List (List UInt8)) (t : List UInt8) : List (List UInt8) := match l with
 | [] => [t]
 | x :: r => if p t ≤ p x then x :: insT p r t else t :: x :: r
theorem insT_mem (p : List UInt8 → Nat) (t x : List UInt8) : ∀ l, x ∈ insT p l t ↔ x = t ∨ x ∈ l
 | [] => by simp [insT]
 | y :: r => by
  unfold insT
  have ih := insT_mem p t x r
  split
  ·rw [zp, ih, zp]; constructor <;> rintro (h | h | h) <;> simp_all
  ·simp
theorem insT_skip (p : List UInt8 → Nat) (t : List UInt8) : ∀ (a b : List (List UInt8)), (∀ x, x ∈ a → p t ≤ p x) → insT p (a ++ b) t = a ++ insT p b t
 | [], _, _ => rfl
 | x :: a, b, h => by
  rw [zbk, insT, zf (h x (by simp)), insT_skip p t a b fun y hy => h y (by simp [hy])]
  rfl
theorem insT_len (p : List UInt8 → Nat) (t : List UInt8) : ∀ l, (insT p l t).length = l.length + 1
 | [] => rfl
 | y :: r => by
  unfold insT
  split
  ·rw [zi, insT_len p t r]; rfl
  ·rfl
theorem insT_up (p : List UInt8 → Nat) (t : List UInt8) : ∀ l, (l.Pairwise fun a b => ltT p a b = true) → (∀ x, x ∈ l → Op.bytesLess x t = true) → (insT p l t).Pairwise fun a b => ltT p a b = true
 | [], _, _ => by simp [insT]
 | y :: r, h, ht => by
  rw [zas] at h
  unfold insT
  split
  ·rename_i hy
   rw [zas]
   refine ⟨fun z hz => ?_, insT_up p t r h.2 fun x hx => ht x (by simp [hx])⟩
   rcases (insT_mem p t z r).1 hz with rfl | hz
   ·have hb := ht y (by simp)
    unfold ltT
    simp only [za1, zj, zw]
    rcases Nat.lt_or_eq_of_le hy with h1 | h1
    ·left; exact h1
    ·right; exact ⟨h1.symm, hb⟩
   ·exact h.1 z hz
  ·rename_i hy
   rw [zas, zas]
   have hty : ltT p t y = true := by
    unfold ltT
    rw [zb (by omega)]; rfl
   refine ⟨fun z hz => ?_, h⟩
   rcases zp.1 hz with rfl | hz
   ·exact hty
   ·exact ltT_trans p hty (h.1 z hz)
def addW (p : List UInt8 → Nat) (acc : List (List UInt8)) (t : List UInt8) : List (List UInt8) := if p t = 0 then acc else insT p acc t
def addWE (p : List UInt8 → Nat) (field : List UInt8) (acc : List (List UInt8)) (e : EEntry) : List (List UInt8) := if e.1 = field then addW p acc e.2.1 else acc
def likeAll (p : List UInt8 → Nat) (field : List UInt8) (es : List EEntry) : List (List UInt8) := es.foldl (addWE p field) []
theorem addW_all (p : List UInt8 → Nat) : ∀ (ts : List (List UInt8)) (acc : List (List UInt8)), UpS ts → (∀ x, x ∈ acc → ∀ t, t ∈ ts → Op.bytesLess x t = true) → (acc.Pairwise fun a b => ltT p a b = true) →
  (ts.foldl (addW p) acc).Pairwise (fun a b => ltT p a b = true) ∧ ∀ x, x ∈ ts.foldl (addW p) acc ↔ x ∈ acc ∨ (x ∈ ts ∧ p x ≠ 0)
 | [], acc, _, _, h => ⟨h, fun x => by simp⟩
 | t :: ts, acc, hu, hlt, h => by
  rw [UpS, zas] at hu
  rw [zaq]
  unfold addW
  by_cases e : p t = 0
  ·rw [zf e]
   obtain ⟨h1, h2⟩ := addW_all p ts acc hu.2 (fun x hx u hu' => hlt x hx u (by simp [hu'])) h
   refine ⟨h1, fun x => ?_⟩
   rw [show (fun acc t => if p t = 0 then acc else insT p acc t) = addW p from rfl, h2, zp]
   constructor
   ·rintro (h | ⟨h, k⟩)
    ·exact .inl h
    ·exact .inr ⟨.inr h, k⟩
   ·rintro (h | ⟨rfl | h, k⟩)
    ·exact .inl h
    ·exact absurd e k
    ·exact .inr ⟨h, k⟩
  ·rw [zu e]
   obtain ⟨h1, h2⟩ := addW_all p ts (insT p acc t) hu.2 (fun x hx u hu' => by
    rcases (insT_mem p t x acc).1 hx with rfl | hx
    ·exact hu.1 u hu'
    ·exact hlt x hx u (by simp [hu'])) (insT_up p t acc h fun x hx => hlt x hx t (by simp))
   refine ⟨h1, fun x => ?_⟩
   rw [show (fun acc t => if p t = 0 then acc else insT p acc t) = addW p from rfl, h2, insT_mem, zp]
   constructor
   ·rintro ((rfl | h) | ⟨h, k⟩)
    ·exact .inr ⟨.inl rfl, e⟩
    ·exact .inl h
    ·exact .inr ⟨.inr h, k⟩
   ·rintro (h | ⟨rfl | h, k⟩)
    ·exact .inl (.inr h)
    ·exact .inl (.inl rfl)
    ·exact .inr ⟨h, k⟩
theorem likeAll_in (p : List UInt8 → Nat) (field : List UInt8) (es : List EEntry) : likeAll p field es = ((inField field es).map fun e => e.2.1).foldl (addW p) [] := by
 unfold likeAll inField
 rw [List.foldl_map, List.foldl_filter]
 congr 1
 funext a e
 unfold addWE
 by_cases h : e.1 = field
 ·rw [zf h, zf (zb h)]
 ·rw [zu h, zu (by simp [h])]
theorem termsIn_up (c : EConf) (docs : List EDoc) (field : List UInt8) : UpS (termsIn c docs field) := by
 unfold termsIn inField UpS
 have h := zbb.1 (entriesS_up c docs)
 refine zbb.2 ?_
 refine List.Pairwise.imp_of_mem (fun {a b} ha hb hab => ?_) (h.sublist (List.filter_sublist (p := fun e : EEntry => decide (e.1 = field))))
 have h1 := of_decide_eq_true (zaZ.1 ha).2
 have h2 := of_decide_eq_true (zaZ.1 hb).2
 unfold ltK keyE at hab
 dsimp only at hab
 rw [h1, h2, bl_irrefl, zb rfl, zbf, zaj] at hab
 exact hab
def likeF (c : EConf) (docs : List EDoc) (field : List UInt8) (id : Int) : List (List UInt8) := likeAll (fun t => ptsF c docs field t id) field (entriesS c docs)
theorem likeF_ok (c : EConf) (docs : List EDoc) (field : List UInt8) (id : Int) : (likeF c docs field id).Pairwise (fun a b => ltT (fun t => ptsF c docs field t id) a b = true) ∧ ∀ x, x ∈ likeF c docs field id ↔ x ∈ termsIn c docs field ∧ ptsF c docs field x id ≠ 0 := by
 unfold likeF
 rw [likeAll_in]
 obtain ⟨h1, h2⟩ := addW_all (fun t => ptsF c docs field t id) (termsIn c docs field) [] (termsIn_up c docs field) (fun x hx => by cases hx) za4
 refine ⟨h1, fun x => ?_⟩
 rw [show ((inField field (entriesS c docs)).map fun e => e.2.1) = termsIn c docs field from rfl, h2]
 simp
theorem like_sorted (c : EConf) (docs : List EDoc) (field : List UInt8) (id : Int) {R : List (List UInt8)} (hp : R.Perm ((termsIn c docs field).filter fun t => decide (0 < ptsF c docs field t id))) (hs : R.Pairwise fun a b => ltT (fun t => ptsF c docs field t id) a b = true) : R = likeF c docs field id := by
 obtain ⟨h1, h2⟩ := likeF_ok c docs field id
 refine sorted_unique (ltT fun t => ptsF c docs field t id) (ltT_irrefl _) (fun a b c h k => ltT_trans _ h k) R _ hs h1 fun x => ?_
 rw [hp.mem_iff, h2, zaZ, zw]
 constructor <;> rintro ⟨h, k⟩ <;> exact ⟨h, by omega⟩
theorem cut_take {α : Type} (xs : List α) (n : Nat) (h : n ≤ xs.length) : cut xs 0 (n : Int) = some (xs.take n) := by
 unfold cut
 rw [zf ⟨by omega, by omega, by omega⟩]
 simp
theorem cut_drop {α : Type} (xs : List α) (n : Nat) (h : n ≤ xs.length) : cut xs (n : Int) (xs.length : Int) = some (xs.drop n) := by
 unfold cut
 rw [zf ⟨by omega, by omega, by omega⟩]
 simp
theorem cmp2_calc (x y : Nat) (a b : List UInt8) : decide ((if (if (y : Int) < (x : Int) then (-1 : Int) else if (x : Int) < (y : Int) then 1 else 0) ≠ 0 then (if (y : Int) < (x : Int) then (-1 : Int) else if (x : Int) < (y : Int) then 1 else 0)
  else if (if Op.bytesLess a b then (-1 : Int) else if Op.bytesLess b a then 1 else 0) ≠ 0 then (if Op.bytesLess a b then (-1 : Int) else if Op.bytesLess b a then 1 else 0) else 0) < 0) = (decide (y < x) || (decide (x = y) && Op.bytesLess a b)) := by
 by_cases h1 : (y : Int) < (x : Int)
 ·rw [zf h1, zb (by omega : y < x)]
  simp
 ·rw [zu h1, zd (by omega : ¬ y < x)]
  by_cases h2 : (x : Int) < (y : Int)
  ·rw [zf h2, zd (by omega : ¬ x = y)]
   simp
  ·rw [zu h2, zb (by omega : x = y)]
   cases h3 : Op.bytesLess a b
   ·cases h4 : Op.bytesLess b a <;> simp
   ·simp
theorem likeTerms_cmp (N : Nat) {c : EConf} {s : ESeg} (g : GoodS N c s) (field : List UInt8) (id : Int) (a b : List UInt8) : Def (cmp693 N (some (c.1, c.2, s.1, s.2), field, id) a b) fun r => decide (r < 0) = ltT (fun t => ptsF c s.1 field t id) a b := by
 have hM := g.m
 show Def (i_LikeTerms_1_m N a b (some (c.1, c.2, s.1, s.2)) field id) _
 unfold i_LikeTerms_1_m
 rw [points2_spec N g, za, points2_spec N g, za, compareI_spec, za, compareS_spec, za, or2_spec N (by omega), za]
 refine Def.ret ?_
 unfold ltT
 exact cmp2_calc _ _ a b
theorem termsIn_len (N : Nat) {c : EConf} {s : ESeg} (g : GoodS N c s) (field : List UInt8) : (termsIn c s.1 field).length ≤ 7680 := by
 unfold termsIn
 rw [zar]
 have h := g.small.1
 rw [g.ent] at h
 exact zau (zbh _ _) h
theorem segTerms_spec (N : Nat) (s : ESeg) (field : List UInt8) (hl : s.2.length < N) (hl2 : s.2.length ≤ 1000000) : i_Seg_terms_m N s field = some ((inField field s.2).map fun e => e.2.1) := by
 refine Def.get ?_
 unfold i_Seg_terms_m
 refine Def.upto s.2.length (fun n g => g = (field, (inField field (s.2.take n)).map (fun e => e.2.1), s.2, (s.2.length : Int), (n : Int))) (fun go g hg => ?_) (fun go n g hn hg hgo => ?_) N 0 _ (zaf _) rfl (by omega)
 ·subst hg
  dsimp only
  rw [zd (zm _), ze, zq]
  exact Def.ret rfl
 ·subst hg
  dsimp only
  have hil : (inField field (s.2.take n)).length ≤ n := zau (zbh _ _) (by rw [zah]; omega)
  have hf := fits_nat (n := n) (by omega)
  rw [zb (by omega : (n : Int) < (s.2.length : Int)), zg, idx_at hn, za]
  have hs : inField field (s.2.take (n + 1)) = inField field (s.2.take n) ++ (if s.2[n].1 = field then [s.2[n]] else []) := by
   unfold inField
   rw [zo hn, za6]
   by_cases h : s.2[n].1 = field
   ·simp [h]
   ·simp [h]
  by_cases h : s.2[n].1 = field
  ·rw [zb h, zg, zf (room_of (by rw [zar]; simp only [zi, zac]; omega) (by rw [zar]; simp only [zi, zac]; omega)), zf hf]
   refine hgo _ ?_
   rw [hs, zf h, zaK, cast_succ']
   rfl
  ·rw [zd h, ze, zf hf]
   refine hgo _ ?_
   rw [hs, zu h, zat, cast_succ']
theorem likeTerms_spec (N : Nat) {c : EConf} {s : ESeg} (g : GoodS N c s) (field : List UInt8) (id : Int) (many : Nat) (h1 : 1 ≤ many) (h4 : many ≤ 4) : i_LikeTerms_m N c.1 c.2 s.1 s.2 field id many = some ((likeF c s.1 field id).take many) := by
 have hM := g.m
 have hN := g.top
 have hsl := g.small.1
 have htl := termsIn_len N g field
 have hso := segOk_spec N g.big hN c g.oc s g.od (by have := g.dok.few; omega)
 refine Def.get ?_
 unfold i_LikeTerms_m
 rw [hso, za, g.ok, zn, ze, within_spec, za, zb (by omega), zb (by omega), zaV, zn, ze, segTerms_spec N (s.1, s.2) field (by show s.2.length < N; omega) (by show s.2.length ≤ _; omega), za]
 dsimp only
 rw [g.ent]
 rw [show ((inField field (entriesS c s.1)).map fun e => e.2.1) = termsIn c s.1 field from rfl]
 have hx : ((c.1, c.2, s.1, entriesS c s.1) : List (List UInt8) × List ESyn × List EDoc × List EEntry) = (c.1, c.2, s.1, s.2) := by rw [g.ent]
 rw [hx]
 let keep : List UInt8 → Bool := fun t => decide (0 < ptsF c s.1 field t id)
 refine Def.upto (termsIn c s.1 field).length (fun n v => v = ((many : Int), ((termsIn c s.1 field).take n).filter keep, termsIn c s.1 field, ((termsIn c s.1 field).length : Int), (n : Int), field, id, (c.1, c.2, s.1, s.2))) (fun go v hv => ?_) (fun go n v hn hv hgo => ?_) N 0 _ (zaf _) rfl (by omega)
 ·subst hv
  dsimp only
  rw [zd (zm _), ze, zq]
  have hfl : ((termsIn c s.1 field).filter keep).length ≤ (termsIn c s.1 field).length := zbh _ _
  refine Def.bind (sortAny_693 (ltT fun t => ptsF c s.1 field t id) (ltT_ordr _) N hN (by omega) _ _ ⟨fun x hx y hy => likeTerms_cmp N g field id x y, ?_⟩ (by omega)) fun R hR => ?_
  ·exact ((termsIn_nodup c s.1 field).sublist List.filter_sublist).imp fun h => ltT_total _ h
  ·have hRl : R.length ≤ 7680 := by rw [hR.1.length_eq]; omega
   rw [like_sorted c s.1 field id hR.1 hR.2] at hRl ⊢
   generalize likeF c s.1 field id = L at *
   have hmin : (if (L.length : Int) < (many : Int) then (L.length : Int) else (many : Int)) = ((min L.length many : Nat) : Int) := by split <;> omega
   rw [hmin, cut_take L _ (Nat.min_le_left _ _), za, zf (room_of (by simp; omega) (by simp; omega)), zaW]
   refine Def.ret ?_
   rw [Nat.min_comm, ← List.take_take, zq]
 ·subst hv
  dsimp only
  have hfl : (((termsIn c s.1 field).take n).filter keep).length ≤ n := zau (zbh _ _) (by rw [zah]; omega)
  have hst : ((termsIn c s.1 field).take (n + 1)).filter keep = ((termsIn c s.1 field).take n).filter keep ++ (if keep (termsIn c s.1 field)[n] = true then [(termsIn c s.1 field)[n]] else []) := by
   rw [zo hn, za6]
   congr 1
   rw [za9]
   rfl
  rw [zb (by omega : (n : Int) < ((termsIn c s.1 field).length : Int)), zg, idx_at hn, za, show (((c.1, c.2), s.1, s.2) : EConf × ESeg) = (c, s) from rfl, points_spec N g, za]
  have hk : keep (termsIn c s.1 field)[n] = decide ((0 : Int) < ((ptsF c s.1 field (termsIn c s.1 field)[n] id : Nat) : Int)) := by
   show decide _ = decide _
   rw [decide_eq_decide]; omega
  rw [hk] at hst
  by_cases e : (0 : Int) < ((ptsF c s.1 field (termsIn c s.1 field)[n] id : Nat) : Int)
  ·rw [zb e] at hst ⊢
   rw [zg, zf (room_of (by simp only [zi, zac]; omega) (by simp only [zi, zac]; omega)), zf (fits_nat (n := n) (by omega))]
   exact hgo _ (by rw [hst, zf rfl, cast_succ'])
  ·rw [zd e] at hst ⊢
   rw [ze, zf (fits_nat (n := n) (by omega))]
   exact hgo _ (by rw [hst, zu (by decide), zat, cast_succ'])
theorem likeAll_len (p : List UInt8 → Nat) (field : List UInt8) : ∀ (es : List EEntry) (acc : List (List UInt8)), (es.foldl (addWE p field) acc).length ≤ acc.length + es.length
 | [], acc => by simp
 | e :: es, acc => by
  rw [zaq]
  refine zau (likeAll_len p field es _) ?_
  have : (addWE p field acc e).length ≤ acc.length + 1 := by
   unfold addWE addW
   split
   ·split
    ·omega
    ·rw [insT_len]; omega
   ·omega
  rw [zi]; omega
theorem l23Terms_spec (N : Nat) {c : EConf} {s : ESeg} (g : GoodS N c s) (field : List UInt8) (id : Int) (many : Nat) : s_l23Terms_m N c.1 c.2 s.1 s.2 field id many = some ((likeF c s.1 field id).take many) := by
 have hM := g.m
 have hN := g.top
 have hsl := g.small.1
 refine Def.get ?_
 unfold s_l23Terms_m
 let p : List UInt8 → Nat := fun t => ptsF c s.1 field t id
 have hent : likeF c s.1 field id = likeAll p field s.2 := by unfold likeF; rw [← g.ent]
 rw [hent]
 refine Def.upto s.2.length (fun n v => v = (field, id, (many : Int), likeAll p field (s.2.take n), (likeAll p field (s.2.take n)).map (fun t => (p t : Int)), (n : Int), s.1, s.2)) (fun go v hv => ?_) (fun go n v hn hv hgo => ?_) N 0 _ (zaf _) rfl (by omega)
 ·subst hv
  dsimp only
  rw [zd (zm _), ze, zq]
  generalize likeAll p field s.2 = L
  refine Def.dif (fun e => ?_) (fun e => ?_)
  ·rw [cut_take L many (by omega), za]
   exact Def.ret rfl
  ·exact Def.ret (zba (by omega)).symm
 ·subst hv
  dsimp only
  have hpl : ∀ t, (p t : Int) ≤ 8800000 := fun t => by
   have := ptsF_le c g.dok field t id
   show ((ptsF c s.1 field t id : Nat) : Int) ≤ _
   omega
  have hstep : likeAll p field (s.2.take (n + 1)) = addWE p field (likeAll p field (s.2.take n)) s.2[n] := by
   unfold likeAll
   rw [zo hn, zaX]
   rfl
  have hlen : (likeAll p field (s.2.take n)).length ≤ n := by
   have := likeAll_len p field (s.2.take n) []
   rw [zac, zah] at this
   unfold likeAll
   omega
  rw [zb (by omega : (n : Int) < (s.2.length : Int)), zg, idx_at hn, za]
  generalize likeAll p field (s.2.take n) = L at *
  generalize likeAll p field (s.2.take (n + 1)) = L' at *
  let t : List UInt8 := s.2[n].2.1
  refine Def.meet (fun v => ∃ k : Nat, v = (field, id, (many : Int), L, L.map (fun t => (p t : Int)), (n : Int), (k : Int), s.1, s.2, s.2[n].1, s.2[n].2.1, s.2[n].2.2) ∧ k = (if s.2[n].1 = field then p t else 0)) (fun v hv => ?_) (fun J hJ => ?_)
  ·obtain ⟨k, rfl, hk⟩ := hv
   dsimp only
   by_cases hz : k = 0
   ·rw [zb (by omega : (k : Int) = 0), zg, zf (fits_nat (n := n) (by omega))]
    refine hgo _ ?_
    have : L' = L := by
     rw [hstep]
     unfold addWE
     split
     ·rename_i hf
      rw [zf hf] at hk
      unfold addW
      rw [zf (hk.symm.trans hz)]
     ·rfl
    rw [this, cast_succ']
   ·have hf : s.2[n].1 = field := by
     by_cases hf : s.2[n].1 = field
     ·exact hf
     ·rw [zu hf] at hk; exact absurd hk hz
    rw [zf hf] at hk
    have hL' : L' = insT p L t := by
     rw [hstep]
     unfold addWE addW
     rw [zf hf, zu (by rw [← show k = p s.2[n].2.1 from hk]; exact hz)]
    have hkl := hpl t
    rw [← hk] at hkl
    rw [zd (by omega : ¬ (k : Int) = 0), ze]
    have fin : ∀ j : Nat, j ≤ L.length → L.take j ++ [t] ++ L.drop j = L' → Def (Option.bind (cut L 0 (j : Int)) fun (y : List (List UInt8)) =>
      if room ([] : List (List UInt8)).length y.length 16 then
      (if room (([] : List (List UInt8)) ++ y).length ([s.2[n].2.1] : List (List UInt8)).length 16 then
      (Option.bind (cut L (j : Int) (L.length : Int)) fun (y2 : List (List UInt8)) =>
      (if room ((([] : List (List UInt8)) ++ y) ++ ([s.2[n].2.1] : List (List UInt8))).length y2.length 16 then
      (Option.bind (cut (L.map fun t => (p t : Int)) 0 (j : Int)) fun (y3 : List Int) =>
      (if room ([] : List Int).length y3.length 8 then
      (if room (([] : List Int) ++ y3).length ([(k : Int)] : List Int).length 8 then
      (Option.bind (cut (L.map fun t => (p t : Int)) (j : Int) ((L.map fun t => (p t : Int)).length : Int)) fun (y4 : List Int) =>
      (if room ((([] : List Int) ++ y3) ++ ([(k : Int)] : List Int)).length y4.length 8 then
      (if fits ((n : Int) + 1) then (go (field, id, (many : Int), (((([] : List (List UInt8)) ++ y) ++ ([s.2[n].2.1] : List (List UInt8))) ++ y2), (((([] : List Int) ++ y3) ++ ([(k : Int)] : List Int)) ++ y4), (n : Int) + 1, s.1, s.2)) else none)
      else none))
      else none)
      else none))
      else none))
      else none)
      else none) fun r => r = (likeAll p field s.2).take many := fun j hj he => by
     rw [cut_take L j hj, za, zf (room_of (by simp; omega) (by simp; omega)), zf (room_of (by simp; omega) (by simp; omega)), cut_drop L j hj, za, zf (room_of (by simp; omega) (by simp; omega)), cut_take _ j (by rw [zar]; exact hj), za, zf (room_of (by simp; omega) (by simp; omega)), zf (room_of (by simp; omega) (by simp; omega)), cut_drop _ j (by rw [zar]; exact hj), za, zf (room_of (by simp; omega) (by simp; omega)), zf (fits_nat (n := n) (by omega))]
     refine hgo _ ?_
     rw [← he, zaK, zaK, List.map_take, List.map_drop, cast_succ', zaW, zaW]
     show _ = (_, _, _, _, _ ++ [(p t : Int)] ++ _, _)
     rw [← hk]
    refine Def.upto L.length (fun j v => v = (field, id, (many : Int), L, L.map (fun t => (p t : Int)), (n : Int), (k : Int), (j : Int), s.1, s.2, s.2[n].1, s.2[n].2.1, s.2[n].2.2) ∧ ∀ x, x ∈ L.take j → p t ≤ p x) (fun go2 v hv => ?_) (fun go2 j v hj hv hgo2 => ?_) N 0 _ (zaf _) ⟨rfl, by simp⟩ (by omega)
    ·obtain ⟨rfl, hx⟩ := hv
     dsimp only
     rw [zd (zm _), ze]
     refine fin L.length (zae _) ?_
     rw [zq] at hx
     rw [hL', zq, zbp, zat]
     have := insT_skip p t L [] hx
     rw [zat] at this
     rw [this]
     rfl
    ·obtain ⟨rfl, hx⟩ := hv
     dsimp only
     have hj2 : j < (L.map fun t => (p t : Int)).length := by rw [zar]; exact hj
     rw [zb (by omega : (j : Int) < (L.length : Int)), zg, idx_at hj2, za, List.getElem_map]
     by_cases hc : (k : Int) ≤ (p L[j] : Int)
     ·rw [zb hc, zg, zf (fits_nat (n := j) (by omega))]
      refine hgo2 _ ⟨by rw [cast_succ'], fun x hxm => ?_⟩
      rw [zo hj, zaB, zaD] at hxm
      rcases hxm with hxm | rfl
      ·exact hx x hxm
      ·omega
     ·rw [zd hc, ze]
      refine fin j (by omega) ?_
      have := insT_skip p t (L.take j) (L.drop j) hx
      rw [zaR, zan hj, insT, zu (by omega), ← zan hj] at this
      rw [hL', this, zao]
      rfl
  ·by_cases hf : s.2[n].1 = field
   ·rw [zb hf, zg, l12Points_spec N g, za]
    exact hJ _ ⟨p t, rfl, by rw [zf hf]⟩
   ·rw [zd hf, ze]
    exact hJ _ ⟨0, rfl, by rw [zu hf]⟩
end Go.Proofs.YtcjbjmbialienaaGreatDoor
namespace Go.Proofs.YtcjbjmbialienaaGreatDoor
open Go.RowKit
def ltH (a b : EHit) : Bool := decide (b.2 < a.2) || (decide (a.2 = b.2) && decide (a.1 < b.1))
theorem ltH_iff (a b : EHit) : ltH a b = true ↔ b.2 < a.2 ∨ (a.2 = b.2 ∧ a.1 < b.1) := by
 unfold ltH
 simp only [za1, zj, zw]
theorem ltH_irrefl (a : EHit) : ltH a a = false := by
 cases h : ltH a a
 ·rfl
 ·rw [ltH_iff] at h; omega
theorem ltH_trans {a b c : EHit} (h : ltH a b = true) (k : ltH b c = true) : ltH a c = true := by
 rw [ltH_iff] at *; omega
theorem ltH_asym {a b : EHit} (h : ltH a b = true) : ltH b a = false := by
 cases h2 : ltH b a
 ·rfl
 ·rw [ltH_iff] at *; omega
theorem ltH_total {a b : EHit} (h : a.1 ≠ b.1) : ltH a b = true ∨ ltH b a = true := by
 rw [ltH_iff, ltH_iff]; omega
theorem ltH_ordr : Ordr ltH := ⟨fun x y h => ltH_asym h, fun x y z h k => ltH_trans h k⟩
def insH (l : List EHit) (h : EHit) : List EHit := match l with
 | [] => [h]
 | x :: r => if ltH x h = true then x :: insH r h else h :: x :: r
theorem insH_mem (h x : EHit) : ∀ l, x ∈ insH l h ↔ x = h ∨ x ∈ l
 | [] => by simp [insH]
 | y :: r => by
  unfold insH
  have ih := insH_mem h x r
  split
  ·rw [zp, ih, zp]; constructor <;> rintro (h | h | h) <;> simp_all
  ·simp
theorem insH_len (h : EHit) : ∀ l, (insH l h).length = l.length + 1
 | [] => rfl
 | y :: r => by
  unfold insH
  split
  ·rw [zi, insH_len h r]; rfl
  ·rfl
theorem insH_skip (h : EHit) : ∀ (a b : List EHit), (∀ x, x ∈ a → ltH x h = true) → insH (a ++ b) h = a ++ insH b h
 | [], _, _ => rfl
 | x :: a, b, hx => by
  rw [zbk, insH, zf (hx x (by simp)), insH_skip h a b fun y hy => hx y (by simp [hy])]
  rfl
theorem insH_up (h : EHit) : ∀ l, (l.Pairwise fun a b => ltH a b = true) → (∀ x, x ∈ l → x.1 ≠ h.1) → (insH l h).Pairwise fun a b => ltH a b = true
 | [], _, _ => by simp [insH]
 | y :: r, hp, hd => by
  rw [zas] at hp
  unfold insH
  split
  ·rename_i hy
   rw [zas]
   refine ⟨fun z hz => ?_, insH_up h r hp.2 fun x hx => hd x (by simp [hx])⟩
   rcases (insH_mem h z r).1 hz with rfl | hz
   ·exact hy
   ·exact hp.1 z hz
  ·rename_i hy
   have hhy : ltH h y = true := by
    rcases ltH_total (hd y (by simp)) with h1 | h1
    ·exact absurd h1 hy
    ·exact h1
   rw [zas, zas]
   refine ⟨fun z hz => ?_, hp⟩
   rcases zp.1 hz with rfl | hz
   ·exact hhy
   ·exact ltH_trans hhy (hp.1 z hz)
def sortH (l : List EHit) : List EHit := l.foldl insH []
abbrev DistH (l : List EHit) : Prop := l.Pairwise fun a b => a.1 ≠ b.1
theorem sortH_all : ∀ (l acc : List EHit), DistH l → (∀ x, x ∈ acc → ∀ y, y ∈ l → x.1 ≠ y.1) → (acc.Pairwise fun a b => ltH a b = true) → ((l.foldl insH acc).Pairwise fun a b => ltH a b = true) ∧ (∀ x, x ∈ l.foldl insH acc ↔ x ∈ acc ∨ x ∈ l)
 | [], acc, _, _, h => ⟨h, fun x => by simp⟩
 | h :: l, acc, hd, hx, hp => by
  rw [DistH, zas] at hd
  rw [zaq]
  obtain ⟨h1, h2⟩ := sortH_all l (insH acc h) hd.2 (fun x hxm y hy => by
   rcases (insH_mem h x acc).1 hxm with rfl | hxm
   ·exact hd.1 y hy
   ·exact hx x hxm y (by simp [hy])) (insH_up h acc hp fun x hxm => hx x hxm h (by simp))
  refine ⟨h1, fun x => ?_⟩
  rw [h2, insH_mem, zp]
  constructor <;> rintro (h | h) <;> simp_all
  ·rcases h with h | h <;> simp_all
  ·rcases h with h | h <;> simp_all
theorem sortH_len : ∀ (l acc : List EHit), (l.foldl insH acc).length = acc.length + l.length
 | [], acc => by simp
 | h :: l, acc => by rw [zaq, sortH_len l, insH_len, zi]; omega
theorem sortH_ok {l : List EHit} (hd : DistH l) : ((sortH l).Pairwise fun a b => ltH a b = true) ∧ ∀ x, x ∈ sortH l ↔ x ∈ l := by
 obtain ⟨h1, h2⟩ := sortH_all l [] hd (fun x hx => by cases hx) za4
 exact ⟨h1, fun x => by rw [show sortH l = l.foldl insH [] from rfl, h2]; simp⟩
theorem sortH_unique {l R : List EHit} (hd : DistH l) (hp : R.Perm l) (hs : R.Pairwise fun a b => ltH a b = true) : R = sortH l := by
 obtain ⟨h1, h2⟩ := sortH_ok hd
 exact sorted_unique ltH ltH_irrefl (fun a b c h k => ltH_trans h k) R _ hs h1 fun x => by rw [hp.mem_iff, h2]
theorem hitOrder_cmp (N : Nat) (hN : 4 ≤ N) (a b : EHit) : Def (cmp454 N () a b) fun r => decide (r < 0) = ltH a b := by
 show Def (i_hitOrder_m N a.1 a.2 b.1 b.2) _
 unfold i_hitOrder_m
 rw [compareI_spec, za, compareI_spec, za, or2_spec N hN, za]
 refine Def.ret ?_
 unfold ltH
 by_cases h1 : b.2 < a.2
 ·rw [zf h1, zb h1]
  simp
 ·rw [zu h1, zd h1]
  by_cases h2 : a.2 < b.2
  ·rw [zf h2, zd (by omega : ¬ a.2 = b.2)]
   simp
  ·rw [zu h2, zb (by omega : a.2 = b.2)]
   by_cases h3 : a.1 < b.1
   ·simp [h3]
   ·by_cases h4 : b.1 < a.1 <;> simp [h3, h4]
theorem firstHits_spec (N : Nat) (hM : 1048576 < N) (hN : N ≤ 16777216) (l : List EHit) (hl : l.length ≤ 100000) (hd : DistH l) (most : Nat) (hm : most ≤ 100000) : i_firstHits_m N l most = some ((sortH l).take most) := by
 refine Def.get ?_
 unfold i_firstHits_m
 rw [zf (room_of (by simp; omega) (by simp; omega)), zaW]
 refine Def.bind (sortAny_454 ltH ltH_ordr N hN (by omega) l () ⟨fun x hx y hy => hitOrder_cmp N (by omega) x y, hd.imp fun h => ltH_total h⟩ (by omega)) fun R hR => ?_
 have hRl := hR.1.length_eq
 rw [sortH_unique hd hR.1 hR.2] at hRl ⊢
 generalize sortH l = L at *
 have hmin : (if (most : Int) < (L.length : Int) then (most : Int) else (L.length : Int)) = ((min most L.length : Nat) : Int) := by split <;> omega
 rw [hmin, cut_take L _ (Nat.min_le_right _ _), za, zf (room_of (by simp; omega) (by simp; omega)), zaW]
 refine Def.ret ?_
 rw [← List.take_take, zq]
theorem l13Less_spec (N : Nat) (a b : EHit) : s_l13Less_m N a.1 a.2 b.1 b.2 = some (ltH a b) := by
 unfold s_l13Less_m ltH
 by_cases h1 : b.2 < a.2
 ·rw [zb h1]; rfl
 ·rw [zd h1]
  by_cases h2 : a.2 = b.2
  ·rw [zb h2]; rfl
  ·rw [zd h2]; rfl
theorem l13Push_spec (N : Nat) (l : List EHit) (h : EHit) (most : Nat) (hl : l.length ≤ 100000) (hN : 1048576 < N) (hm : most ≤ 100000) : s_l13Push_m N l h.1 h.2 most = some ((insH l h).take most) := by
 refine Def.get ?_
 unfold s_l13Push_m
 have fin : ∀ j : Nat, j ≤ l.length → l.take j ++ [h] ++ l.drop j = insH l h → Def (Option.bind (cut l 0 (j : Int)) fun (y : List (Int × Int)) =>
   if room ([] : List (Int × Int)).length y.length 16 then
   (if room (([] : List (Int × Int)) ++ y).length ([(h.1, h.2)] : List (Int × Int)).length 16 then
   (Option.bind (cut l (j : Int) (l.length : Int)) fun (y2 : List (Int × Int)) =>
   (if room ((([] : List (Int × Int)) ++ y) ++ ([(h.1, h.2)] : List (Int × Int))).length y2.length 16 then
   (bif (decide ((most : Int) < ((((([] : List (Int × Int)) ++ y) ++ ([(h.1, h.2)] : List (Int × Int))) ++ y2).length : Int))) then
   (Option.bind (cut (((([] : List (Int × Int)) ++ y) ++ ([(h.1, h.2)] : List (Int × Int))) ++ y2) 0 (most : Int)) fun (y3 : List (Int × Int)) =>
   (some y3))
   else
   (some (((([] : List (Int × Int)) ++ y) ++ ([(h.1, h.2)] : List (Int × Int))) ++ y2)))
   else none))
   else none)
   else none) fun r => r = (insH l h).take most := fun j hj he => by
  rw [cut_take l j hj, za, zf (room_of (by simp; omega) (by simp; omega)), zf (room_of (by simp; omega) (by simp; omega)), cut_drop l j hj, za, zf (room_of (by simp; omega) (by simp; omega)), zaW]
  rw [show l.take j ++ [(h.1, h.2)] ++ l.drop j = insH l h from he]
  generalize insH l h = L
  refine Def.dif (fun e => ?_) (fun e => ?_)
  ·rw [cut_take L most (by omega), za]
   exact Def.ret rfl
  ·exact Def.ret (zba (by omega)).symm
 refine Def.upto l.length (fun j v => v = (l, (most : Int), (j : Int), h.1, h.2) ∧ ∀ x, x ∈ l.take j → ltH x h = true) (fun go v hv => ?_) (fun go j v hj hv hgo => ?_) N 0 _ (zaf _) ⟨rfl, by simp⟩ (by omega)
 ·obtain ⟨rfl, hx⟩ := hv
  dsimp only
  rw [zd (zm _), ze]
  refine fin l.length (zae _) ?_
  rw [zq] at hx
  have := insH_skip h l [] hx
  rw [zat] at this
  rw [zq, zbp, zat, this]
  rfl
 ·obtain ⟨rfl, hx⟩ := hv
  dsimp only
  rw [zb (by omega : (j : Int) < (l.length : Int)), zg, idx_at hj, za, l13Less_spec N l[j] h, za]
  cases hb : ltH l[j] h with
  | true =>
   rw [zg, zf (fits_nat (n := j) (by omega))]
   refine hgo _ ⟨by rw [cast_succ'], fun x hxm => ?_⟩
   rw [zo hj, zaB, zaD] at hxm
   rcases hxm with hxm | rfl
   ·exact hx x hxm
   ·exact hb
  | false =>
   rw [ze]
   refine fin j (by omega) ?_
   have := insH_skip h (l.take j) (l.drop j) hx
   rw [zaR, zan hj, insH, zu (by rw [hb]; decide), ← zan hj] at this
   rw [this, zao]
   rfl
def sumPts (c : EConf) (docs : List EDoc) (field : List UInt8) (ts : List (List UInt8)) (id : Int) : Nat := sumL (ts.map fun t => ptsF c docs field t id)
theorem sumPts_le (c : EConf) {docs : List EDoc} (hd : DOk docs) (field : List UInt8) (ts : List (List UInt8)) (id : Int) : sumPts c docs field ts id ≤ ts.length * 8800000 := by
 unfold sumPts
 refine zau (sumL_le 8800000 _ fun x hx => ?_) (by rw [zar]; exact zae _)
 obtain ⟨t, _, rfl⟩ := zab.1 hx
 exact ptsF_le c hd field t id
theorem sumPts_step (c : EConf) (docs : List EDoc) (field : List UInt8) (ts : List (List UInt8)) (id : Int) (n : Nat) (h : n < ts.length) : sumPts c docs field (ts.take (n + 1)) id = sumPts c docs field (ts.take n) id + ptsF c docs field ts[n] id := by
 unfold sumPts
 rw [zo h, zaK, sumL_append]
 rfl
theorem l23Sum_spec (N : Nat) {c : EConf} {s : ESeg} (g : GoodS N c s) (field : List UInt8) (ts : List (List UInt8)) (id : Int) (hl : ts.length ≤ 100000) : s_l23Sum_m N s.1 s.2 field ts id = some (sumPts c s.1 field ts id : Int) := by
 have hM := g.m
 refine Def.get ?_
 unfold s_l23Sum_m
 refine Def.upto ts.length (fun n v => v = (field, ts, id, ((sumPts c s.1 field (ts.take n) id : Nat) : Int), (n : Int), s.1, s.2)) (fun go v hv => ?_) (fun go n v hn hv hgo => ?_) N 0 _ (zaf _) rfl (by omega)
 ·subst hv
  dsimp only
  rw [zd (zm _), ze, zq]
  exact Def.ret rfl
 ·subst hv
  dsimp only
  have h1 := sumPts_le c g.dok field (ts.take n) id
  have h2 := ptsF_le c g.dok field ts[n] id
  have h3 : (ts.take n).length ≤ 100000 := by rw [zah]; omega
  have h4 := zag 8800000 h3
  rw [zb (by omega : (n : Int) < (ts.length : Int)), zg, idx_at hn, za, l12Points_spec N g, za, zf (fits_abs (by omega) (by omega)), zf (fits_nat (n := n) (by omega))]
  exact hgo _ (by rw [sumPts_step c s.1 field ts id n hn, cast_succ', Int.natCast_add])
def hitOf (c : EConf) (docs : List EDoc) (field : List UInt8) (ts : List (List UInt8)) (id : Int) (d : EDoc) : Option EHit := if 0 < sumPts c docs field ts d.1 ∧ d.1 ≠ id then some (d.1, (sumPts c docs field ts d.1 : Int)) else none
def hitsOf (c : EConf) (docs : List EDoc) (field : List UInt8) (ts : List (List UInt8)) (id : Int) : List EHit := docs.filterMap (hitOf c docs field ts id)
theorem hitsOf_dist (c : EConf) {docs : List EDoc} (hd : DOk docs) (field : List UInt8) (ts : List (List UInt8)) (id : Int) : DistH (hitsOf c docs field ts id) := by
 unfold hitsOf DistH
 refine List.pairwise_filterMap.2 (hd.inn.ids.imp fun {a b} hab x hx y hy => ?_)
 unfold hitOf at hx hy
 split at hx
 ·split at hy
  ·cases hx; cases hy
   dsimp only
   omega
  ·cases hy
 ·cases hx
def likeTopF (c : EConf) (s : ESeg) (field : List UInt8) (id : Int) (many : Nat) : List EHit := sortH (hitsOf c s.1 field ((likeF c s.1 field id).take many) id)
theorem hitsOf_len (c : EConf) (docs docs' : List EDoc) (field : List UInt8) (ts : List (List UInt8)) (id : Int) : (docs'.filterMap (hitOf c docs field ts id)).length ≤ docs'.length := za3 _ _
theorem likeTop_impl (N : Nat) {c : EConf} {s : ESeg} (g : GoodS N c s) (field : List UInt8) (id : Int) (many : Nat) (h1 : 1 ≤ many) (h4 : many ≤ 4) : i_LikeTop_m N c.1 c.2 s.1 s.2 field id many = some (likeTopF c s field id many) := by
 have hM := g.m
 have hN := g.top
 have hfew := g.dok.few
 refine Def.get ?_
 unfold i_LikeTop_m
 rw [likeTerms_spec N g field id many h1 h4, za]
 have htl : ((likeF c s.1 field id).take many).length ≤ 4 := by rw [zah]; omega
 unfold likeTopF
 generalize (likeF c s.1 field id).take many = ts at *
 refine Def.upto s.1.length (fun n v => v = (field, id, ts, (s.1.take n).filterMap (hitOf c s.1 field ts id), s.1, (s.1.length : Int), (n : Int), c.1, c.2, s.1, s.2)) (fun go v hv => ?_) (fun go n v hn hv hgo => ?_) N 0 _ (zaf _) rfl (by omega)
 ·subst hv
  dsimp only
  have hh := hitsOf_len c s.1 s.1 field ts id
  have hdd := hitsOf_dist c g.dok field ts id
  unfold hitsOf at hdd ⊢
  rw [zd (zm _), ze, zq, show (16 : Int) = ((16 : Nat) : Int) from rfl, firstHits_spec N hM hN _ (by omega) hdd 16 (by omega), za]
  refine Def.ret (zba ?_)
  rw [show sortH _ = List.foldl insH [] _ from rfl, sortH_len]
  simp only [zac]
  omega
 ·subst hv
  dsimp only
  have hh := hitsOf_len c s.1 (s.1.take n) field ts id
  have hh2 : (s.1.take n).length ≤ 16 := by rw [zah]; omega
  have hst := filterMap_step (hitOf c s.1 field ts id) s.1 n hn
  rw [zb (by omega : (n : Int) < (s.1.length : Int)), zg, idx_at hn, za]
  generalize (s.1.take n).filterMap (hitOf c s.1 field ts id) = acc at *
  generalize (s.1.take (n + 1)).filterMap (hitOf c s.1 field ts id) = acc' at *
  refine Def.upto ts.length (fun j v => v = (field, id, ts, acc, ((sumPts c s.1 field (ts.take j) s.1[n].1 : Nat) : Int), s.1, (s.1.length : Int), (n : Int), ts, (ts.length : Int), (j : Int), s.1[n].1, s.1[n].2.1, s.1[n].2.2, c.1, c.2, s.1, s.2)) (fun go2 v hv => ?_) (fun go2 j v hj hv hgo2 => ?_) N 0 _ (zaf _) rfl (by omega)
  ·subst hv
   dsimp only
   rw [zd (zm _), ze, zq]
   unfold hitOf at hst
   by_cases e1 : (0 : Int) < ((sumPts c s.1 field ts s.1[n].1 : Nat) : Int)
   ·rw [zb e1, zg]
    by_cases e2 : s.1[n].1 = id
    ·rw [zu (fun h => h.2 e2)] at hst
     rw [zb e2, zn, ze, zf (fits_nat (n := n) (by omega))]
     exact hgo _ (by rw [hst, zat, cast_succ'])
    ·rw [zf ⟨by omega, e2⟩] at hst
     rw [zd e2, zaI, zg, zf (room_of (by simp only [zi, zac]; omega) (by simp only [zi, zac]; omega)), zf (fits_nat (n := n) (by omega))]
     exact hgo _ (by rw [hst, cast_succ'])
   ·rw [zu (fun h => e1 (by omega))] at hst
    rw [zd e1, ze, zf (fits_nat (n := n) (by omega))]
    exact hgo _ (by rw [hst, zat, cast_succ'])
  ·subst hv
   dsimp only
   have h1 := sumPts_le c g.dok field (ts.take j) s.1[n].1
   have h2 := ptsF_le c g.dok field ts[j] s.1[n].1
   have h3 : (ts.take j).length ≤ 4 := by rw [zah]; omega
   have h5 := zag 8800000 h3
   rw [zb (by omega : (j : Int) < (ts.length : Int)), zg, idx_at hj, za, show (((c.1, c.2), s.1, s.2) : EConf × ESeg) = (c, s) from rfl, points_spec N g, za, zf (fits_abs (by omega) (by omega)), zf (fits_nat (n := j) (by omega))]
   exact hgo2 _ (by rw [sumPts_step c s.1 field ts s.1[n].1 j hj, cast_succ', Int.natCast_add])
theorem likeTop_ref (N : Nat) {c : EConf} {s : ESeg} (g : GoodS N c s) (field : List UInt8) (id : Int) (many : Nat) (h1 : 1 ≤ many) (h4 : many ≤ 4) : s_LikeTop_m N c.1 c.2 s.1 s.2 field id many = some (likeTopF c s field id many) := by
 have hM := g.m
 have hN := g.top
 have hfew := g.dok.few
 have hso := l7Ok_spec N g.big hN c g.oc s g.od (by omega)
 refine Def.get ?_
 unfold s_LikeTop_m
 rw [hso, za, g.ok, zn, ze, l1In_spec, za, zb (by omega), zb (by omega), zaV, zn, ze, l23Terms_spec N g field id many, za]
 have htl : ((likeF c s.1 field id).take many).length ≤ 4 := by rw [zah]; omega
 unfold likeTopF hitsOf
 generalize (likeF c s.1 field id).take many = ts at *
 refine Def.upto s.1.length (fun n v => v = (field, id, sortH ((s.1.take n).filterMap (hitOf c s.1 field ts id)), ts, (n : Int), s.1, s.2)) (fun go v hv => ?_) (fun go n v hn hv hgo => ?_) N 0 _ (zaf _) rfl (by omega)
 ·subst hv
  dsimp only
  rw [zd (zm _), ze, zq]
  exact Def.ret rfl
 ·subst hv
  dsimp only
  have hh := hitsOf_len c s.1 (s.1.take n) field ts id
  have hh2 : (s.1.take n).length ≤ n := by rw [zah]; omega
  have hst := filterMap_step (hitOf c s.1 field ts id) s.1 n hn
  rw [zb (by omega : (n : Int) < (s.1.length : Int)), zg, idx_at hn, za, l23Sum_spec N g field ts _ (by omega), za]
  generalize (s.1.take n).filterMap (hitOf c s.1 field ts id) = acc at *
  generalize (s.1.take (n + 1)).filterMap (hitOf c s.1 field ts id) = acc' at *
  unfold hitOf at hst
  by_cases e1 : (0 : Int) < ((sumPts c s.1 field ts s.1[n].1 : Nat) : Int)
  ·rw [zb e1, zg, za]
   by_cases e2 : s.1[n].1 = id
   ·rw [zu (fun h => h.2 e2)] at hst
    rw [zb e2, zn, ze, zf (fits_nat (n := n) (by omega))]
    exact hgo _ (by rw [hst, zat, cast_succ'])
   ·rw [zf ⟨by omega, e2⟩] at hst
    have hsl : (sortH acc).length ≤ n := by rw [show sortH acc = List.foldl insH [] acc from rfl, sortH_len]; simp only [zac]; omega
    have hp := l13Push_spec N (sortH acc) (s.1[n].1, ((sumPts c s.1 field ts s.1[n].1 : Nat) : Int)) 16 (by omega) hM (by omega)
    dsimp only at hp
    rw [zd e2, zaI, zg, za, show (16 : Int) = ((16 : Nat) : Int) from rfl, hp, za, zf (fits_nat (n := n) (by omega)), zba (by rw [insH_len]; omega)]
    refine hgo _ ?_
    rw [hst, cast_succ']
    unfold sortH
    rw [zaX]
    rfl
  ·rw [zu (fun h => e1 (by omega))] at hst
   rw [zd e1, ze, zf (fits_nat (n := n) (by omega))]
   exact hgo _ (by rw [hst, zat, cast_succ'])
end Go.Proofs.YtcjbjmbialienaaGreatDoor
namespace Go.Proofs.YtcjbjmbialienaaGreatDoor
open Go.RowKit
def manyOk (many : Int) : Bool := decide (1 ≤ many) && decide (many ≤ 4)
def likeR (c : EConf) (s : ESeg) (field : List UInt8) (id many : Int) : List (List UInt8) := bif okSeg c s && manyOk many then (likeF c s.1 field id).take many.toNat else []
def likeTopR (c : EConf) (s : ESeg) (field : List UInt8) (id many : Int) : List EHit := bif okSeg c s && manyOk many then likeTopF c s field id many.toNat else []
theorem many_nat {many : Int} (h : manyOk many = true) : ∃ m : Nat, many = (m : Int) ∧ 1 ≤ m ∧ m ≤ 4 := by
 unfold manyOk at h
 simp only [zj, zw] at h
 exact ⟨many.toNat, by omega, by omega, by omega⟩
theorem likeTerms_i (N : Nat) (hM : Sm < N) (hN : N ≤ 16777216) (c : EConf) (oc : okD Sm TConf c) (s : ESeg) (od : ∀ x, x ∈ s.1 → okD Sm TDoc x) (hl : s.1.length ≤ 1048576) (field : List UInt8) (id many : Int) : i_LikeTerms_m N c.1 c.2 s.1 s.2 field id many = some (likeR c s field id many) := by
 unfold likeR
 cases h1 : okSeg c s with
 | false =>
  unfold i_LikeTerms_m
  rw [segOk_spec N hM hN c oc s od hl, za, h1]
  rfl
 | true =>
  cases h2 : manyOk many with
  | false =>
   unfold i_LikeTerms_m
   rw [segOk_spec N hM hN c oc s od hl, za, h1, zn, ze, within_spec, za, show (decide ((1 : Int) ≤ many) && decide (many ≤ 4)) = false from h2]
   rfl
  | true =>
   obtain ⟨m, rfl, m1, m4⟩ := many_nat h2
   rw [likeTerms_spec N ⟨hM, hN, oc, od, h1⟩ field id m m1 m4]
   rfl
theorem likeTop_i (N : Nat) (hM : Sm < N) (hN : N ≤ 16777216) (c : EConf) (oc : okD Sm TConf c) (s : ESeg) (od : ∀ x, x ∈ s.1 → okD Sm TDoc x) (hl : s.1.length ≤ 1048576) (field : List UInt8) (id many : Int) : i_LikeTop_m N c.1 c.2 s.1 s.2 field id many = some (likeTopR c s field id many) := by
 have hM' : 1048576 < N := hM
 unfold likeTopR
 cases hb : okSeg c s && manyOk many with
 | false =>
  have ht := likeTerms_i N hM hN c oc s od hl field id many
  unfold likeR at ht
  rw [hb, ze] at ht
  refine Def.get ?_
  unfold i_LikeTop_m
  rw [ht, za]
  refine Def.upto s.1.length (fun n v => v = (field, id, [], [], s.1, (s.1.length : Int), (n : Int), c.1, c.2, s.1, s.2)) (fun go v hv => ?_) (fun go n v hn hv hgo => ?_) N 0 _ (zaf _) rfl (by omega)
  ·subst hv
   dsimp only
   rw [zd (zm _), ze, show (16 : Int) = ((16 : Nat) : Int) from rfl, firstHits_spec N hM' hN [] (by simp) za4 16 (by omega), za]
   exact Def.ret rfl
  ·subst hv
   dsimp only
   rw [zb (by omega : (n : Int) < (s.1.length : Int)), zg, idx_at hn, za]
   refine Def.upto 0 (fun j v => v = (field, id, [], [], 0, s.1, (s.1.length : Int), (n : Int), [], 0, (j : Int), s.1[n].1, s.1[n].2.1, s.1[n].2.2, c.1, c.2, s.1, s.2)) (fun go2 v hv => ?_) (fun go2 j v hj hv hgo2 => absurd hj (Nat.not_lt_zero _)) N 0 _ (zaf _) rfl (by omega)
   subst hv
   dsimp only
   rw [zd (by omega), ze, zd (by omega), ze, zf (fits_nat (n := n) (by omega))]
   exact hgo _ (by rw [cast_succ'])
 | true =>
  rw [zj] at hb
  obtain ⟨m, rfl, m1, m4⟩ := many_nat hb.2
  rw [likeTop_impl N ⟨hM, hN, oc, od, hb.1⟩ field id m m1 m4]
  rfl
theorem likeTop_s (N : Nat) (hM : Sm < N) (hN : N ≤ 16777216) (c : EConf) (oc : okD Sm TConf c) (s : ESeg) (od : ∀ x, x ∈ s.1 → okD Sm TDoc x) (hl : s.1.length ≤ 1048576) (field : List UInt8) (id many : Int) : s_LikeTop_m N c.1 c.2 s.1 s.2 field id many = some (likeTopR c s field id many) := by
 unfold likeTopR
 cases h1 : okSeg c s with
 | false =>
  unfold s_LikeTop_m
  rw [l7Ok_spec N hM hN c oc s od hl, za, h1]
  rfl
 | true =>
  cases h2 : manyOk many with
  | false =>
   unfold s_LikeTop_m
   rw [l7Ok_spec N hM hN c oc s od hl, za, h1, zn, ze, l1In_spec, za, show (decide ((1 : Int) ≤ many) && decide (many ≤ 4)) = false from h2]
   rfl
  | true =>
   obtain ⟨m, rfl, m1, m4⟩ := many_nat h2
   rw [likeTop_ref N ⟨hM, hN, oc, od, h1⟩ field id m m1 m4]
   rfl
theorem mcnt_hit (l : List EHit) : mcnt cHit l = 2 * l.length := by
 induction l with
 | nil => rfl
 | cons x l ih => rw [mcnt, ih, zi]; unfold cHit; omega
theorem likeTopR_ok (c : EConf) (s : ESeg) (field : List UInt8) (id many : Int) (od : ∀ x, x ∈ s.1 → okD Sm TDoc x) : (likeTopR c s field id many).length ≤ 16 ∧ okD Sm (.sl THit) (likeTopR c s field id many) := by
 unfold likeTopR
 cases hb : okSeg c s && manyOk many with
 | false => exact ⟨by simp, ⟨by simp, fun x hx => by cases hx⟩⟩
 | true =>
  rw [zj] at hb
  have hd := (okSeg_ok hb.1).2.1
  obtain ⟨m, rfl, m1, m4⟩ := many_nat hb.2
  rw [zg, zai]
  unfold likeTopF
  have hh := hitsOf_len c s.1 s.1 field ((likeF c s.1 field id).take m) id
  have hf := hd.few
  have hl : (sortH (hitsOf c s.1 field ((likeF c s.1 field id).take m) id)).length ≤ 16 := by
   rw [show sortH _ = List.foldl insH [] _ from rfl, sortH_len]
   unfold hitsOf
   simp only [zac]
   omega
  refine ⟨hl, ⟨zau hl (by decide), fun x hx => ?_⟩⟩
  have hx := ((sortH_ok (hitsOf_dist c hd field _ id)).2 x).1 hx
  obtain ⟨d, hdm, hxd⟩ := zbs.1 hx
  unfold hitOf at hxd
  split at hxd
  ·cases hxd
   have h1 := sumPts_le c hd field ((likeF c s.1 field id).take m) d.1
   have h2 : ((likeF c s.1 field id).take m).length ≤ 4 := by rw [zah]; omega
   have h3 := zag 8800000 h2
   refine ⟨(od d hdm).1, ?_⟩
   show IntKind.i64.min ≤ _ ∧ _ ≤ IntKind.i64.max
   have h4 : IntKind.i64.min = -9223372036854775808 := rfl
   have h5 : IntKind.i64.max = 9223372036854775807 := rfl
   rw [h4, h5]
   dsimp only
   omega
  ·cases hxd
theorem fnExactLikeTop_gen (N : Nat) (hM : Sm < N) (hN : N ≤ 16777216) (c : EConf) (s : ESeg) (field : List UInt8) (id many : Int) (hc : okD BigN TConf c) (hs : okD BigN TSeg s) : l_FnExactLikeTop_m N c.1 c.2 s.1 s.2 field id many = some true := by
 have hN' : N ≤ 1099511627776 := by omega
 refine Def.get ?_
 unfold l_FnExactLikeTop_m
 refine Def.dif (fun e => Def.ret rfl) (fun e1 => ?_)
 refine Def.bind (szConf_spec N hM c 1048576 (by omega) (by omega) hc) fun r hr => ?_
 refine Def.dif (fun e => Def.ret rfl) (fun e3 => ?_)
 rcases hr with hr | ⟨r0, r1, oc⟩
 ·omega
 refine Def.bind (szSeg_spec N hM s r r0 (by omega) hs) fun r2 hr2 => ?_
 refine Def.dif (fun e => Def.ret rfl) (fun e4 => ?_)
 rcases hr2 with hr2 | ⟨r3, r4, os⟩
 ·omega
 have t1 := toConf_spec N hM hN' c oc
 have t2 := toSeg_spec N hM hN' s os
 have t3 := eqConf_spec N hM hN' c c oc
 have t4 := eqSeg_spec N hM hN' s s os
 have hd : ∀ x, x ∈ s.1 → okD Sm TDoc x := fun x hx => os.1.2 x hx
 have hl : s.1.length ≤ 1048576 := os.1.1
 have t5 := likeTop_s N hM hN c oc s hd hl field id many
 have t6 := likeTop_i N hM hN c oc s hd hl field id many
 obtain ⟨hL, okL⟩ := likeTopR_ok c s field id many hd
 have c1 := cConf_le c
 have c2 := cSeg_le s
 generalize likeTopR c s field id many = L at *
 have hm := mcnt_hit L
 have t7 := eqHitS_spec N hM hN' L L okL
 have t8 := markConf_spec N hM hN' c 1 (by omega) (by omega) oc
 have t9 := markSeg_spec N hM hN' s (1 + (cConf c : Nat)) (by omega) (by omega) os
 have t10 := markHitS_spec N hM hN' L 1 (by omega) (by omega) okL
 have t11 := heldHitS_spec N hM hN' L 1 (by omega) (by omega) okL
 simp only [t1, t2, t3, t4, t5, t6, t7, t8, za, decide_true, zn, ze]
 simp only [t9, za]
 rw [zd (by omega), ze]
 simp only [t10, t11, za, decide_true, zn, ze]
 rw [zd (by omega), ze]
 exact Def.ret rfl
theorem fnExactLikeTop_law (x0 : EConf) (x1 : ESeg) (x2 : List UInt8) (x3 x4 : Int) (o0 : okD BigN TConf x0) (o1 : okD BigN TSeg x1) (o2 : okD BigN .str x2) (o3 : okD BigN (.int .i64) x3) (o4 : okD BigN (.int .i64) x4) : l_FnExactLikeTop_m 1048700 x0.1 x0.2 x1.1 x1.2 x2 x3 x4 = some true :=
 fnExactLikeTop_gen 1048700 (by decide) (by decide) x0 x1 x2 x3 x4 o0 o1
end Go.Proofs.YtcjbjmbialienaaGreatDoor
