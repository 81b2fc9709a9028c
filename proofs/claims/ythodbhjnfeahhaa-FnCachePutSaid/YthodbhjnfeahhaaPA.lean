import Derived.Test.YthodbhjnfeahhaaG1
import Derived.Test.YthodbhjnfeahhaaK27
/- Plain laws: what is drawn. -/
set_option linter.unusedVariables false
set_option linter.unusedSimpArgs false
namespace Go.Proofs.Ythodbhjnfeahhaa
open Go.RowKit
theorem wrap64 {n : Int} (h0 : 0 ≤ n) (h1 : n < 9223372036854775808) : IntKind.i64.wrap n = n := by
  simp only [IntKind.wrap, IntKind.bits, IntKind.signed]
  simp only [show ((2:Int) ^ 64) = 18446744073709551616 by rfl, show ((2:Int) ^ (64 - 1)) = 9223372036854775808 by rfl]
  have e : n % 18446744073709551616 = n := Int.emod_eq_of_lt h0 (by omega)
  rw [e]
  have : ¬ (n ≥ 9223372036854775808) := by omega
  simp [this]
theorem xor64 {x y : Int} (hx : 0 ≤ x ∧ x < 9223372036854775808) (hy : 0 ≤ y ∧ y < 9223372036854775808) : 0 ≤ bitsI .xor .i64 x y := by
  have e1 : (BitVec.ofInt 64 x).toNat = x.toNat := by
    rw [BitVec.toNat_ofInt]
    have : x % ((2 ^ 64 : Nat) : Int) = x := Int.emod_eq_of_lt hx.1 (by omega)
    rw [this]
  have e2 : (BitVec.ofInt 64 y).toNat = y.toNat := by
    rw [BitVec.toNat_ofInt]
    have : y % ((2 ^ 64 : Nat) : Int) = y := Int.emod_eq_of_lt hy.1 (by omega)
    rw [this]
  have hb : (BitVec.ofInt 64 x ^^^ BitVec.ofInt 64 y).toNat < 2 ^ 63 := by
    rw [BitVec.toNat_xor, e1, e2]
    exact Nat.xor_lt_two_pow (by omega) (by omega)
  show 0 ≤ IntKind.i64.wrap ((BitVec.ofInt 64 x ^^^ BitVec.ofInt 64 y).toNat : Int)
  rw [wrap64 (by omega) (by omega)]
  omega
theorem idx_get {α : Type} {xs : List α} {i : Int} (h0 : 0 ≤ i) (h1 : i < xs.length) : ∃ x, idx xs i = some x ∧ x ∈ xs := by
  have h : i.toNat < xs.length := by omega
  exact ⟨xs[i.toNat], by simp only [idx, if_pos h0, List.getElem?_eq_getElem h], List.getElem_mem h⟩
/-- Bytes. -/
def Bs (b : List Int) : Prop := ∀ x, x ∈ b → 0 ≤ x ∧ x ≤ 255
theorem pick_spec (N : Nat) (n : Int) (b : List Int) (k : Int) (hb : Bs b) (h0 : 0 ≤ k) (h1 : k ≤ 1099511627776) (hl : b.length ≤ 2000) : ∃ v, s_l30Rd_pick_m N n b k = some (v, b, k + 1) ∧ 0 ≤ v ∧ (1 ≤ n → v < n) ∧ (n < 1 → v = 0) := by
  unfold s_l30Rd_pick_m
  rw [if_pos (by unfold fits; omega)]
  by_cases hn : n < 1
  · exact ⟨0, by simp [hn], Int.le_refl _, fun h => by omega, fun _ => rfl⟩
  have hn' : decide (n < 1) = false := by simp [hn]
  simp only [hn', cond_false]
  by_cases hz : (b.length : Int) = 0
  · exact ⟨0, by simp [hz], Int.le_refl _, fun h => by omega, fun h => absurd h hn⟩
  have hz' : decide ((b.length : Int) = 0) = false := by simp only [hz, decide_false]
  have ek : k + 1 - 1 = k := by omega
  have tm : ∀ x : Int, 0 ≤ x → 0 ≤ x.tmod n ∧ x.tmod n < n := fun x hx => ⟨Int.tmod_nonneg n hx, Int.tmod_lt_of_pos x (by omega)⟩
  have tl : ∀ x : Int, 0 ≤ x → 0 ≤ x.tmod (b.length : Int) ∧ x.tmod (b.length : Int) < b.length := fun x hx => ⟨Int.tmod_nonneg _ hx, Int.tmod_lt_of_pos x (by omega)⟩
  simp only [hz', cond_false, ek, if_pos (show fits k by unfold fits; omega)]
  by_cases hk : k < (b.length : Int)
  · obtain ⟨e, he, hm⟩ := idx_get h0 hk
    have := hb e hm
    simp only [hk, decide_true, cond_true, he, Option.bind_some]
    rw [if_pos (by omega), wrap64 (by omega) (by omega)]
    exact ⟨_, rfl, (tm e (by omega)).1, fun _ => (tm e (by omega)).2, fun h => absurd h hn⟩
  · have hk' : decide (k < (b.length : Int)) = false := by simp only [hk, decide_false]
    obtain ⟨e, he, hm⟩ := idx_get (xs := b) (tl k h0).1 (tl k h0).2
    obtain ⟨f, hf, hm2⟩ := idx_get (xs := b) (tl (k * 7 + 3) (by omega)).1 (tl (k * 7 + 3) (by omega)).2
    have b1 := hb e hm
    have b2 := hb f hm2
    have w1 : IntKind.i64.wrap e = e := wrap64 (by omega) (by omega)
    have w2 : IntKind.i64.wrap f = f := wrap64 (by omega) (by omega)
    have d0 : 0 ≤ k.tdiv (b.length : Int) := Int.tdiv_nonneg h0 (by omega)
    have d1 : k.tdiv (b.length : Int) ≤ k := by
      rw [Int.tdiv_eq_ediv_of_nonneg h0]
      exact Int.ediv_le_self _ h0
    obtain ⟨d, hd⟩ : ∃ d, d = k.tdiv (b.length : Int) := ⟨_, rfl⟩
    simp only [hk', cond_false, he, hf, Option.bind_some, w1, w2, ← hd]
    rw [← hd] at d0 d1
    obtain ⟨x, hx⟩ : ∃ x, x = e * 131 + f * 1117 + k * 29 + d * 53 := ⟨_, rfl⟩
    have x0 : 0 ≤ x := by omega
    have x1 : x < 4611686018427387904 := by omega
    have q0 : 0 ≤ x.tdiv 64 := Int.tdiv_nonneg x0 (by omega)
    have q1 : x.tdiv 64 ≤ x := by
      rw [Int.tdiv_eq_ediv_of_nonneg x0]
      exact Int.ediv_le_self _ x0
    have y0 := xor64 (x := x) (y := x.tdiv 64) ⟨x0, by omega⟩ ⟨q0, by omega⟩
    rw [if_pos hz, if_pos (by unfold fits; omega), if_pos (by unfold fits; omega), if_pos (by unfold fits; omega), if_pos hz, if_pos (by unfold fits; omega), if_pos (by unfold fits; omega), if_pos (by unfold fits; omega), if_pos (by unfold fits; omega), if_pos hz,
      if_pos (by unfold fits; omega), if_pos (by unfold fits; omega), if_pos (by unfold fits; omega), if_pos (by decide), ← hx, if_pos (by unfold fits; omega), if_pos (by omega)]
    exact ⟨_, rfl, (tm _ y0).1, fun _ => (tm _ y0).2, fun h => absurd h hn⟩
end Go.Proofs.Ythodbhjnfeahhaa

/- The law FnCacheNew, in plain Lean. -/
set_option linter.unusedVariables false
set_option linter.unusedSimpArgs false
namespace Go.Proofs.Ythodbhjnfeahhaa
open Go.RowKit
theorem cut_spec {α : Type} (xs : List α) (n : Nat) (h : n ≤ xs.length) : cut xs 0 (n : Int) = some (xs.take n) := by
  unfold cut
  rw [if_pos (by omega)]
  simp
theorem open_spec (N : Nat) (code : List Int) (hb : Bs code) : ∃ y, s_l30Open_m N code = some (y, 0) ∧ Bs y ∧ y.length ≤ 2000 := by
  unfold s_l30Open_m
  by_cases h : (2000 : Int) < (code.length : Int)
  · simp only [h, decide_true, cond_true]
    rw [show (2000 : Int) = ((2000 : Nat) : Int) from rfl, cut_spec code 2000 (by omega)]
    exact ⟨_, rfl, fun x hx => hb x (List.mem_of_mem_take hx), by simp; omega⟩
  · simp only [h, decide_false, cond_false]
    exact ⟨_, rfl, hb, by omega⟩
theorem one_spec (N : Nat) (l : List Int) (b : List Int) (k : Int) (hl0 : 0 < l.length) (hb : Bs b) (h0 : 0 ≤ k) (h1 : k ≤ 1099511627776) (hl : b.length ≤ 2000) : ∃ e, s_l30Rd_one_m N l b k = some (e, b, k + 1) ∧ e ∈ l := by
  obtain ⟨v, hv, v0, v1, _⟩ := pick_spec N l.length b k hb h0 h1 hl
  obtain ⟨e, he, hm⟩ := idx_get v0 (v1 (by omega))
  exact ⟨e, by simp only [s_l30Rd_one_m, hv, Option.bind_some, he], hm⟩
theorem within_spec (N : Nat) (n a b : Int) : i_within_m N n a b = some (decide (a ≤ n ∧ n ≤ b)) := by
  unfold i_within_m
  by_cases h : a ≤ n <;> simp [h]
theorem l1In_spec (N : Nat) (n a b : Int) : s_l1In_m N n a b = some (decide (a ≤ n ∧ n ≤ b)) := by
  unfold s_l1In_m
  by_cases h : a ≤ n <;> simp [h]
theorem fnCacheNew_law0 (M : Nat) (code : List Int) (hb : Bs code) : l_FnCacheNew_m (M + 1) code = some true := by
  unfold l_FnCacheNew_m
  by_cases h : (1048576 : Int) < (code.length : Int)
  · simp [h]
  obtain ⟨y, hy, hby, hl⟩ := open_spec (M + 1) code hb
  obtain ⟨e, he, hm⟩ := one_spec (M + 1) [1, 3, 5, 0, 6] y 0 (by decide) hby (by omega) (by omega) hl
  have hd : s_DrawCacheNew_m (M + 1) code = some e := by simp only [s_DrawCacheNew_m, hy, Option.bind_some, he]
  have z0 : l_foItems_m (M + 1) ([] : List ((List UInt8) × (List (Int × Int)))) [] = some true := by simp [l_foItems_m, iter]
  by_cases hw : 1 ≤ e ∧ e ≤ 5
  · have hc : i_CacheNew_m (M + 1) e = some (e, 0, []) := by simp [i_CacheNew_m, within_spec, hw]
    have hs : s_CacheNew_m (M + 1) e = some (e, 0) := by simp [s_CacheNew_m, l1In_spec, hw]
    have hf : l_foCache_m (M + 1) e 0 [] e 0 [] = some true := by simp [l_foCache_m, z0]
    have hne : ¬ e = 0 := by omega
    have hok : i_CacheOk_m (M + 1) e 0 [] = some true := by
      have : ¬ e < 0 := by omega
      simp [i_CacheOk_m, within_spec, hw, this, iter]
    simp [h, hd, hc, hs, hf, hne, hok]
  · have hc : i_CacheNew_m (M + 1) e = some (0, 0, []) := by simp [i_CacheNew_m, within_spec, hw]
    have hs : s_CacheNew_m (M + 1) e = some (0, 0) := by simp [s_CacheNew_m, l1In_spec, hw]
    have hf : l_foCache_m (M + 1) 0 0 [] 0 0 [] = some true := by simp [l_foCache_m, z0]
    simp [h, hd, hc, hs, hf]
theorem fnCacheNew_law (code : List Int) (hb : ∀ x, x ∈ code → 0 ≤ x ∧ x ≤ 255) : l_FnCacheNew_m (0 + 1) code = some true := fnCacheNew_law0 0 code hb
end Go.Proofs.Ythodbhjnfeahhaa

/- Plain laws: loops, and what the cache's functions compute. -/
set_option linter.unusedVariables false
set_option linter.unusedSimpArgs false
namespace Go.Proofs.Ythodbhjnfeahhaa
open Go.RowKit
abbrev DHit2 := Int × Int
abbrev DItem2 := List UInt8 × List (Int × Int)
theorem idx_at {α : Type} {xs : List α} {n : Nat} (h : n < xs.length) : idx xs (n : Int) = some xs[n] := by
  simp only [idx, if_pos (Int.natCast_nonneg n), Int.toNat_natCast, List.getElem?_eq_getElem h]
/-- A loop over a list: what it gives from place n on. -/
theorem iter_scan {δ ρ : Type} (F : (δ → Option ρ) → δ → Option ρ) (len : Nat) (st : Nat → δ) (spec : Nat → Option ρ)
    (hend : ∀ go, F go (st len) = spec len) (hstep : ∀ go n, n < len → go (st (n + 1)) = spec (n + 1) → F go (st n) = spec n) :
    ∀ N n, n ≤ len → len - n < N → iter F N (st n) = spec n
  | 0, n, _, h => by omega
  | N + 1, n, hn, h => by
    show F (iter F N) (st n) = spec n
    by_cases e : n = len
    · rw [e]; exact hend _
    · exact hstep _ n (by omega) (iter_scan F len st spec hend hstep N (n + 1) (by omega) (by omega))
theorem cast_succ' (n : Nat) : ((n + 1 : Nat) : Int) = (n : Int) + 1 := by omega
theorem fits_nat {n : Nat} (h : (n : Int) ≤ 9223372036854775806) : fits ((n : Int) + 1) := by unfold fits; omega
def findFrom (ask : List UInt8) : List DItem2 → Int → Int
  | [], _ => -1
  | x :: xs, i => if x.1 = ask then i else findFrom ask xs (i + 1)
theorem find_spec (N : Nat) (c c2 : Int) (xs : List DItem2) (ask : List UInt8) (h : xs.length < N) (hl : (xs.length : Int) ≤ 9223372036854775806) : i_Cache_find_m N c c2 xs ask = some (findFrom ask xs 0) := by
  unfold i_Cache_find_m
  refine (iter_scan _ xs.length (fun n => (ask, xs, (xs.length : Int), (n : Int))) (fun n => some (findFrom ask (xs.drop n) n)) (fun go => ?_) (fun go n hn hgo => ?_) N 0 (Nat.zero_le _) (by omega)).trans (by simp)
  · simp [findFrom]
  · have hn' : (n : Int) < (xs.length : Int) := by omega
    dsimp only
    rw [decide_eq_true hn', cond_true, idx_at hn, Option.bind_some, List.drop_eq_getElem_cons hn]
    by_cases hx : xs[n].1 = ask
    · rw [decide_eq_true hx, cond_true, findFrom, if_pos hx]
    · rw [decide_eq_false hx, cond_false, if_pos (fits_nat (n := n) (by omega)), findFrom, if_neg hx]
      simp only [cast_succ'] at hgo
      exact hgo
def docIn (d : Int) (xs : List DHit2) : Bool := xs.any fun x => decide (x.1 = d)
def findDoc (d : Int) : List DHit2 → Int → Int
  | [], _ => -1
  | x :: xs, i => if x.1 = d then i else findDoc d xs (i + 1)
theorem findDoc_pos (d : Int) : ∀ (xs : List DHit2) (i : Int), 0 ≤ i → (decide (0 ≤ findDoc d xs i)) = docIn d xs
  | [], i, _ => rfl
  | x :: xs, i, h => by
    simp only [findDoc, docIn, List.any_cons]
    by_cases e : x.1 = d
    · simp [e, h]
    · simp only [e, if_false, decide_false, Bool.false_or]
      exact findDoc_pos d xs (i + 1) (by omega)
theorem hasDoc_spec (N : Nat) (xs : List DHit2) (d : Int) (h : xs.length < N) (hl : (xs.length : Int) ≤ 9223372036854775806) : i_hasDoc_m N xs d = some (docIn d xs) := by
  have h1 : k_slices_IndexFunc_200_m N xs d = some (findDoc d xs 0) := by
    unfold k_slices_IndexFunc_200_m
    refine (iter_scan _ xs.length (fun n => (xs, d, (xs.length : Int), (n : Int))) (fun n => some (findDoc d (xs.drop n) n)) (fun go => ?_) (fun go n hn hgo => ?_) N 0 (Nat.zero_le _) (by omega)).trans (by simp)
    · simp [findDoc]
    · have hn' : (n : Int) < (xs.length : Int) := by omega
      dsimp only
      rw [decide_eq_true hn', cond_true, idx_at hn, Option.bind_some, i_hasDoc_1_m, Option.bind_some, List.drop_eq_getElem_cons hn]
      by_cases hx : xs[n].1 = d
      · rw [decide_eq_true hx, cond_true, findDoc, if_pos hx]
      · rw [decide_eq_false hx, cond_false, if_pos (fits_nat (n := n) (by omega)), findDoc, if_neg hx]
        simp only [cast_succ'] at hgo
        exact hgo
  simp only [i_hasDoc_m, k_slices_ContainsFunc_50_m, h1, Option.bind_some, findDoc_pos d xs 0 (Int.le_refl _)]
theorem cmp_spec (N : Nat) (x y : Int) : k_cmp_Compare_992_m N x y = some (if x < y then -1 else if y < x then 1 else 0) := by
  simp only [k_cmp_Compare_992_m, k_cmp_isNaN_538_m, Option.bind_some, decide_true, Bool.not_true, cond_false]
  by_cases h : x < y
  · simp [h]
  · by_cases h2 : y < x <;> simp [h, h2]
theorem or_spec (M : Nat) (x y : Int) : k_cmp_Or_892_m (M + 3) [x, y] = some (if x = 0 then y else x) := by
  unfold k_cmp_Or_892_m
  by_cases h : x = 0
  · by_cases h2 : y = 0 <;> simp [iter, idx, h, h2, fits]
  · simp [iter, idx, h]
def aheadH (x y : DHit2) : Bool := decide (y.2 < x.2 ∨ x.2 = y.2 ∧ x.1 < y.1)
theorem order_spec (M : Nat) (x y : DHit2) : ∃ r, i_hitOrder_m (M + 3) x.1 x.2 y.1 y.2 = some r ∧ (decide (0 ≤ r)) = !aheadH x y := by
  simp only [i_hitOrder_m, cmp_spec, Option.bind_some, or_spec]
  refine ⟨_, rfl, ?_⟩
  unfold aheadH
  by_cases h1 : y.2 < x.2
  · simp [h1]
  · by_cases h2 : x.2 < y.2
    · have : ¬ (x.2 = y.2) := by omega
      simp [h1, h2, this]
    · have e : x.2 = y.2 := by omega
      by_cases h3 : x.1 < y.1
      · simp [e, h3]
      · by_cases h4 : y.1 < x.1 <;> simp [e, h3, h4]
theorem less_spec (N : Nat) (x y : DHit2) : s_l13Less_m N x.1 x.2 y.1 y.2 = some (aheadH x y) := by
  unfold s_l13Less_m aheadH
  by_cases h1 : y.2 < x.2
  · simp [h1]
  · by_cases h2 : x.2 = y.2 <;> simp [h1, h2]
/-- A hit at its place. -/
def okAt (xs : List DHit2) (n : Nat) (x : DHit2) : Bool := decide (1 ≤ x.1 ∧ x.1 ≤ 9999) && !decide (x.2 < 1) && !docIn x.1 (xs.take n) && (decide (n = 0) || (match xs[n - 1]? with | some y => aheadH y x | none => false))
def okFrom (xs : List DHit2) : List DHit2 → Nat → Bool
  | [], _ => decide ((xs.length : Int) ≤ 16)
  | x :: l, n => okAt xs n x && okFrom xs l (n + 1)
theorem hitsOk_spec (M : Nat) (xs : List DHit2) (h : xs.length < M + 3) (hl : (xs.length : Int) ≤ 9223372036854775806) : i_HitsOk_m (M + 3) xs = some (okFrom xs xs 0) := by
  unfold i_HitsOk_m
  refine (iter_scan _ xs.length (fun n => (xs, xs, (xs.length : Int), (n : Int))) (fun n => some (okFrom xs (xs.drop n) n)) (fun go => ?_) (fun go n hn hgo => ?_) (M + 3) 0 (Nat.zero_le _) (by omega)).trans (by simp)
  · simp [okFrom]
  · have hn' : (n : Int) < (xs.length : Int) := by omega
    dsimp only
    rw [decide_eq_true hn', cond_true, idx_at hn, Option.bind_some, within_spec, Option.bind_some, List.drop_eq_getElem_cons hn, okFrom, okAt]
    by_cases h1 : 1 ≤ xs[n].1 ∧ xs[n].1 ≤ 9999
    · rw [decide_eq_true h1, Bool.not_true, cond_false, Bool.true_and]
      by_cases h2 : xs[n].2 < 1
      · rw [decide_eq_true h2, cond_true]; rfl
      · have hs : i_hasDoc_m (M + 3) (xs.take n) xs[n].1 = some (docIn xs[n].1 (xs.take n)) := hasDoc_spec _ _ _ (by simp; omega) (by simp; omega)
        rw [decide_eq_false h2, cond_false, cut_spec xs n (by omega), Option.bind_some, hs, Option.bind_some]
        cases h3 : docIn xs[n].1 (xs.take n) with
        | true => rfl
        | false =>
          rw [cond_false]
          by_cases h4 : n = 0
          · subst h4
            rw [show (decide ((0 : Int) < ((0 : Nat) : Int))) = false from rfl, cond_false, if_pos (fits_nat (n := 0) (by omega))]
            simp only [Bool.not_false, Bool.true_and, decide_true, Bool.true_or]
            simp only [cast_succ'] at hgo
            exact hgo
          · have hp : (0 : Int) < (n : Int) := by omega
            have e1 : (n : Int) - 1 = ((n - 1 : Nat) : Int) := by omega
            have hlt : n - 1 < xs.length := by omega
            obtain ⟨r, hr, hr2⟩ := order_spec M xs[n - 1] xs[n]
            have hfit : fits (((n - 1 : Nat) : Int)) := by unfold fits; omega
            rw [decide_eq_true hp, cond_true, e1, if_pos hfit, idx_at hlt, Option.bind_some, hr, Option.bind_some, hr2, if_pos (fits_nat (n := n) (by omega)), decide_eq_false h4, List.getElem?_eq_getElem hlt]
            cases hah : aheadH xs[n - 1] xs[n] with
            | true =>
              simp only [cast_succ'] at hgo
              rw [Bool.not_true, cond_false, hgo]
              simp [hah]
            | false =>
              rw [Bool.not_false, cond_true]
              simp [hah]
    · rw [decide_eq_false h1]; rfl
end Go.Proofs.Ythodbhjnfeahhaa

/- Plain laws: comparing what is found. -/
set_option linter.unusedVariables false
set_option linter.unusedSimpArgs false
namespace Go.Proofs.Ythodbhjnfeahhaa
open Go.RowKit
theorem drop_eq_iff {α : Type} [DecidableEq α] {a b : List α} {n : Nat} (h : n < a.length) (hb : n < b.length) : (decide (a.drop n = b.drop n)) = (decide (a[n] = b[n]) && decide (a.drop (n + 1) = b.drop (n + 1))) := by
  rw [Bool.eq_iff_iff, Bool.and_eq_true, decide_eq_true_eq, decide_eq_true_eq, decide_eq_true_eq, List.drop_eq_getElem_cons h, List.drop_eq_getElem_cons hb, List.cons.injEq]
theorem foHits_spec (N : Nat) (a b : List DHit2) (h : a.length < N) (hl : (a.length : Int) ≤ 9223372036854775806) : l_foHits_m N a b = some (decide (a = b)) := by
  unfold l_foHits_m
  by_cases he : a.length = b.length
  · have he' : (a.length : Int) = (b.length : Int) := by omega
    rw [decide_eq_true he', Bool.not_true, cond_false]
    refine (iter_scan _ a.length (fun n => (a, b, (n : Int))) (fun n => some (decide (a.drop n = b.drop n))) (fun go => ?_) (fun go n hn hgo => ?_) N 0 (Nat.zero_le _) (by omega)).trans (by simp)
    · have e2 : b.drop a.length = [] := by rw [he]; simp
      simp [e2]
    · have hn' : (n : Int) < (a.length : Int) := by omega
      have hnb : n < b.length := by omega
      dsimp only
      rw [decide_eq_true hn', cond_true, idx_at hn, Option.bind_some, idx_at hnb, Option.bind_some, drop_eq_iff hn hnb]
      have e3 : (decide (a[n] = b[n])) = (decide (a[n].1 = b[n].1) && decide (a[n].2 = b[n].2)) := by
        rw [Bool.eq_iff_iff]; simp [Prod.ext_iff]
      rw [e3]
      cases hd : (decide (a[n].1 = b[n].1) && decide (a[n].2 = b[n].2)) with
      | false => simp
      | true =>
        rw [Bool.not_true, cond_false, if_pos (fits_nat (n := n) (by omega)), Bool.true_and]
        simp only [cast_succ'] at hgo
        exact hgo
  · have he' : ¬ (a.length : Int) = (b.length : Int) := by omega
    rw [decide_eq_false he', Bool.not_false, cond_true]
    have : a ≠ b := fun e => he (by rw [e])
    simp [this]
/-- Hits that are not too many. -/
def fewHits (M : Nat) (xs : List DItem2) : Prop := ∀ x, x ∈ xs → x.2.length < M
theorem foItems_spec (N : Nat) (a b : List DItem2) (h : a.length < N) (hN : (N : Int) ≤ 9223372036854775806) (hf : fewHits N a) : l_foItems_m N a b = some (decide (a = b)) := by
  unfold l_foItems_m
  by_cases he : a.length = b.length
  · have he' : (a.length : Int) = (b.length : Int) := by omega
    rw [decide_eq_true he', Bool.not_true, cond_false]
    refine (iter_scan _ a.length (fun n => (a, b, (n : Int))) (fun n => some (decide (a.drop n = b.drop n))) (fun go => ?_) (fun go n hn hgo => ?_) N 0 (Nat.zero_le _) (by omega)).trans (by simp)
    · have e2 : b.drop a.length = [] := by rw [he]; simp
      simp [e2]
    · have hn' : (n : Int) < (a.length : Int) := by omega
      have hnb : n < b.length := by omega
      have hlen := hf a[n] (List.getElem_mem hn)
      dsimp only
      rw [decide_eq_true hn', cond_true, idx_at hn, Option.bind_some, idx_at hnb, Option.bind_some, Option.bind_some, Option.bind_some, drop_eq_iff hn hnb]
      have e3 : (decide (a[n] = b[n])) = (decide (a[n].1 = b[n].1) && decide (a[n].2 = b[n].2)) := by
        rw [Bool.eq_iff_iff]; simp [Prod.ext_iff]
      rw [e3, foHits_spec N a[n].2 b[n].2 hlen (by omega), Option.bind_some]
      cases hd : decide (a[n].1 = b[n].1) with
      | false => simp
      | true =>
        rw [Bool.not_true, cond_false, Bool.true_and]
        cases hd2 : decide (a[n].2 = b[n].2) with
        | false => simp
        | true =>
          rw [Bool.not_true, cond_false, if_pos (fits_nat (n := n) (by omega)), Bool.true_and]
          simp only [cast_succ'] at hgo
          exact hgo
  · have he' : ¬ (a.length : Int) = (b.length : Int) := by omega
    rw [decide_eq_false he', Bool.not_false, cond_true]
    have : a ≠ b := fun e => he (by rw [e])
    simp [this]
theorem foCache_spec (N : Nat) (m g : Int) (a : List DItem2) (m' g' : Int) (b : List DItem2) (h : a.length < N) (hN : (N : Int) ≤ 9223372036854775806) (hf : fewHits N a) : l_foCache_m N m g a m' g' b = some (decide ((m, g, a) = (m', g', b))) := by
  unfold l_foCache_m
  rw [foItems_spec N a b h hN hf, Option.bind_some]
  by_cases h1 : m = m' <;> by_cases h2 : g = g' <;> simp [h1, h2]
end Go.Proofs.Ythodbhjnfeahhaa

/- Plain laws: the specification's checks of hits and caches. -/
set_option linter.unusedVariables false
set_option linter.unusedSimpArgs false
namespace Go.Proofs.Ythodbhjnfeahhaa
open Go.RowKit
theorem docIn_cons {xs : List DHit2} {n k : Nat} (d : Int) (h : k < n) (hn : n ≤ xs.length) : docIn d ((xs.take n).drop k) = (decide ((xs[k]'(by omega)).1 = d) || docIn d ((xs.take n).drop (k + 1))) := by
  have hk : k < (xs.take n).length := by simp; omega
  rw [List.drop_eq_getElem_cons hk]
  simp [docIn, List.any_cons]
theorem l13inner (N : Nat) (go : List DHit2 × Int → Option Bool) (xs : List DHit2) (n : Nat) (hn : n < xs.length) (t u : Bool) (h : n < N) (hl : (xs.length : Int) ≤ 9223372036854775806) :
    (iter (fun (go2 : ((List (Int × Int)) × Int × Int × Bool × Bool) → Option Bool) (g : (List (Int × Int)) × Int × Int × Bool × Bool) =>
      match g with
      | (list3, i2, k, t24, t41) =>
      (bif (decide (k < i2)) then
        (Option.bind (idx list3 k) fun (e5 : Int × Int) =>
          (Option.bind (idx list3 i2) fun (e6 : Int × Int) =>
            (bif (decide (e5.1 = e6.1)) then
              (some false)
              else
              (if fits (k + 1) then (go2 (list3, i2, (k + 1), t24, t41)) else none))))
        else
        (if fits (i2 + 1) then (go (list3, (i2 + 1))) else none))) N (xs, (n : Int), 0, t, u)) = bif docIn xs[n].1 (xs.take n) then some false else go (xs, (n : Int) + 1) := by
  refine (iter_scan _ n (fun k => (xs, (n : Int), (k : Int), t, u)) (fun k => bif docIn xs[n].1 ((xs.take n).drop k) then some false else go (xs, (n : Int) + 1)) (fun go2 => ?_) (fun go2 k hk hgo => ?_) N 0 (Nat.zero_le _) (by omega)).trans (by simp)
  · have e1 : (xs.take n).drop n = [] := by simp
    dsimp only
    rw [decide_eq_false (Int.lt_irrefl _), cond_false, if_pos (fits_nat (n := n) (by omega)), e1]
    rfl
  · have hk' : (k : Int) < (n : Int) := by omega
    have hkl : k < xs.length := by omega
    dsimp only
    rw [decide_eq_true hk', cond_true, idx_at hkl, Option.bind_some, idx_at hn, Option.bind_some, docIn_cons _ hk (by omega)]
    by_cases hd : xs[k].1 = xs[n].1
    · rw [decide_eq_true hd, cond_true, Bool.true_or, cond_true]
    · rw [decide_eq_false hd, cond_false, if_pos (fits_nat (n := k) (by omega)), Bool.false_or]
      simp only [cast_succ'] at hgo
      exact hgo
theorem l13Ok_spec (N : Nat) (xs : List DHit2) (h : xs.length < N) (hl : (xs.length : Int) ≤ 9223372036854775806) : s_l13Ok_m N xs = some (okFrom xs xs 0) := by
  unfold s_l13Ok_m
  refine (iter_scan _ xs.length (fun n => (xs, (n : Int))) (fun n => some (okFrom xs (xs.drop n) n)) (fun go => ?_) (fun go n hn hgo => ?_) N 0 (Nat.zero_le _) (by omega)).trans (by simp)
  · simp [okFrom]
  · have hn' : (n : Int) < (xs.length : Int) := by omega
    simp only [cast_succ'] at hgo
    have fin : (bif docIn xs[n].1 (xs.take n) then some false else go (xs, (n : Int) + 1)) = some (!docIn xs[n].1 (xs.take n) && okFrom xs (xs.drop (n + 1)) (n + 1)) := by
      rw [hgo]
      cases docIn xs[n].1 (xs.take n) <;> rfl
    dsimp only
    rw [decide_eq_true hn', cond_true, idx_at hn, Option.bind_some, l1In_spec, Option.bind_some, Option.bind_some, List.drop_eq_getElem_cons hn, okFrom, okAt]
    by_cases h1 : 1 ≤ xs[n].1 ∧ xs[n].1 ≤ 9999
    · rw [decide_eq_true h1, Bool.not_true, cond_false, Bool.true_and]
      by_cases h2 : xs[n].2 < 1
      · rw [decide_eq_true h2, cond_true]; rfl
      · rw [decide_eq_false h2, cond_false]
        by_cases h4 : n = 0
        · subst h4
          rw [show (decide ((0 : Int) < ((0 : Nat) : Int))) = false from rfl, cond_false]
          refine (l13inner N go xs 0 hn _ _ (by omega) hl).trans (fin.trans ?_)
          simp
        · have hp : (0 : Int) < (n : Int) := by omega
          have e1 : (n : Int) - 1 = ((n - 1 : Nat) : Int) := by omega
          have hlt : n - 1 < xs.length := by omega
          have hfit : fits (((n - 1 : Nat) : Int)) := by unfold fits; omega
          rw [decide_eq_true hp, cond_true, e1, if_pos hfit, idx_at hlt, Option.bind_some, Option.bind_some, less_spec, Option.bind_some, decide_eq_false h4, List.getElem?_eq_getElem hlt]
          cases hah : aheadH xs[n - 1] xs[n] with
          | true =>
            rw [Bool.not_true, cond_false]
            refine (l13inner N go xs n hn _ _ (by omega) hl).trans (fin.trans ?_)
            simp [hah]
          | false =>
            rw [Bool.not_false, cond_true]
            simp [hah]
    · rw [decide_eq_false h1]; rfl
/-- Both checks of hits are one. -/
theorem hitsOk_same (M : Nat) (xs : List DHit2) (h : xs.length < M + 3) (hl : (xs.length : Int) ≤ 9223372036854775806) : i_HitsOk_m (M + 3) xs = s_l13Ok_m (M + 3) xs := by
  rw [hitsOk_spec M xs h hl, l13Ok_spec (M + 3) xs h hl]
end Go.Proofs.Ythodbhjnfeahhaa

/- Plain laws: caches that are ok. -/
set_option linter.unusedVariables false
set_option linter.unusedSimpArgs false
namespace Go.Proofs.Ythodbhjnfeahhaa
open Go.RowKit
def askIn (a : List UInt8) (xs : List DItem2) : Bool := xs.any fun x => decide (x.1 = a)
theorem findFrom_ge (a : List UInt8) : ∀ (xs : List DItem2) (i : Int), 0 ≤ i → findFrom a xs i = -1 ∨ i ≤ findFrom a xs i
  | [], i, _ => .inl rfl
  | x :: xs, i, h => by
    simp only [findFrom]
    split
    · exact .inr (Int.le_refl _)
    · rcases findFrom_ge a xs (i + 1) (by omega) with h1 | h1
      · exact .inl h1
      · exact .inr (by omega)
/-- An item is found where it lies, if none ahead asks the same. -/
theorem find_at : ∀ (xs : List DItem2) (i n : Nat) (hn : n < xs.length), (decide (findFrom xs[n].1 xs (i : Int) = ((i + n : Nat) : Int))) = !askIn xs[n].1 (xs.take n)
  | [], _, _, h => absurd h (Nat.not_lt_zero _)
  | x :: xs, i, 0, _ => by simp [findFrom, askIn]
  | x :: xs, i, n + 1, h => by
    have hn : n < xs.length := by simpa using h
    simp only [List.getElem_cons_succ, findFrom, List.take_succ_cons]
    by_cases e : x.1 = xs[n].1
    · have h1 : ¬ ((i : Int) = ((i + (n + 1) : Nat) : Int)) := by omega
      simp only [if_pos e, decide_eq_false h1, askIn, List.any_cons, decide_eq_true e, Bool.true_or, Bool.not_true]
    · have ih := find_at xs (i + 1) n hn
      have e2 : ((i + 1 + n : Nat) : Int) = ((i + (n + 1) : Nat) : Int) := by omega
      rw [e2, cast_succ'] at ih
      simp only [if_neg e, askIn, List.any_cons, decide_eq_false e, Bool.false_or]
      exact ih
def okItem (xs : List DItem2) (n : Nat) (x : DItem2) : Bool := !decide (x.1 = []) && okFrom x.2 x.2 0 && !askIn x.1 (xs.take n)
def okItems (xs : List DItem2) : List DItem2 → Nat → Bool
  | [], _ => true
  | x :: l, n => okItem xs n x && okItems xs l (n + 1)
def okCache (c g : Int) (xs : List DItem2) : Bool := decide (1 ≤ c ∧ c ≤ 5) && decide (0 ≤ g ∧ g ≤ 999999999) && decide ((xs.length : Int) ≤ c) && okItems xs xs 0
theorem cacheOk_spec (M : Nat) (c g : Int) (xs : List DItem2) (h : xs.length < M + 3) (hN : (M : Int) ≤ 9223372036854775000) (hf : fewHits (M + 3) xs) : i_CacheOk_m (M + 3) c g xs = some (okCache c g xs) := by
  unfold i_CacheOk_m okCache
  rw [within_spec, Option.bind_some, within_spec, Option.bind_some]
  cases h1 : decide (1 ≤ c ∧ c ≤ 5) with
  | false => rfl
  | true =>
    cases h2 : decide (0 ≤ g ∧ g ≤ 999999999) with
    | false => rfl
    | true =>
      rw [Bool.not_true, cond_false, cond_false]
      by_cases h3 : c < (xs.length : Int)
      · have h3' : ¬ (xs.length : Int) ≤ c := by omega
        rw [decide_eq_true h3, cond_true, decide_eq_false h3']; rfl
      · have h3' : (xs.length : Int) ≤ c := by omega
        rw [decide_eq_false h3, cond_false, decide_eq_true h3', Bool.true_and, Bool.true_and, Bool.true_and]
        refine (iter_scan _ xs.length (fun n => (xs, (xs.length : Int), (n : Int), c, g, xs)) (fun n => some (okItems xs (xs.drop n) n)) (fun go => ?_) (fun go n hn hgo => ?_) (M + 3) 0 (Nat.zero_le _) (by omega)).trans (by simp)
        · simp [okItems]
        · have hn' : (n : Int) < (xs.length : Int) := by omega
          have hx := hf xs[n] (List.getElem_mem hn)
          simp only [cast_succ'] at hgo
          dsimp only
          rw [decide_eq_true hn', cond_true, idx_at hn, Option.bind_some, List.drop_eq_getElem_cons hn, okItems, okItem, hitsOk_spec M _ hx (by omega), Option.bind_some, find_spec (M + 3) c g xs _ h (by omega), Option.bind_some]
          cases h4 : decide (xs[n].1 = []) with
          | true => rfl
          | false =>
            rw [cond_false]
            cases h5 : okFrom xs[n].2 xs[n].2 0 with
            | false => rfl
            | true =>
              have h6 : decide (findFrom xs[n].1 xs 0 = (n : Int)) = !askIn xs[n].1 (xs.take n) := by
                have h7 := find_at xs 0 n hn
                rw [Nat.zero_add] at h7
                exact h7
              rw [Bool.not_true, cond_false, h6, if_pos (fits_nat (n := n) (by omega)), hgo]
              cases askIn xs[n].1 (xs.take n) <;> rfl
end Go.Proofs.Ythodbhjnfeahhaa

/- Plain laws: the specification's check of caches. -/
set_option linter.unusedVariables false
set_option linter.unusedSimpArgs false
namespace Go.Proofs.Ythodbhjnfeahhaa
open Go.RowKit
theorem askIn_cons {xs : List DItem2} {n k : Nat} (a : List UInt8) (h : k < n) (hn : n ≤ xs.length) : askIn a ((xs.take n).drop k) = (decide ((xs[k]'(by omega)).1 = a) || askIn a ((xs.take n).drop (k + 1))) := by
  have hk : k < (xs.take n).length := by simp; omega
  rw [List.drop_eq_getElem_cons hk]
  simp [askIn, List.any_cons]
theorem l24inner (N : Nat) (go : Int × Int × Int × List DItem2 → Option Bool) (c g0 : Int) (xs : List DItem2) (n : Nat) (hn : n < xs.length) (t : Bool) (h : n < N) (hl : (xs.length : Int) ≤ 9223372036854775806) :
    (iter (fun (go2 : (Int × Int × Bool × Int × Int × (List ((List UInt8) × (List (Int × Int))))) → Option Bool) (g : Int × Int × Bool × Int × Int × (List ((List UInt8) × (List (Int × Int))))) =>
      match g with
      | (i2, k, t27, c7, c8, c9) =>
      (bif (decide (k < i2)) then
        (Option.bind (idx c9 k) fun (e3 : (List UInt8) × (List (Int × Int))) =>
          (Option.bind (idx c9 i2) fun (e4 : (List UInt8) × (List (Int × Int))) =>
            (bif (decide (e3.1 = e4.1)) then
              (some false)
              else
              (if fits (k + 1) then (go2 (i2, (k + 1), t27, c7, c8, c9)) else none))))
        else
        (if fits (i2 + 1) then (go ((i2 + 1), c7, c8, c9)) else none))) N ((n : Int), 0, t, c, g0, xs)) = bif askIn xs[n].1 (xs.take n) then some false else go ((n : Int) + 1, c, g0, xs) := by
  refine (iter_scan _ n (fun k => ((n : Int), (k : Int), t, c, g0, xs)) (fun k => bif askIn xs[n].1 ((xs.take n).drop k) then some false else go ((n : Int) + 1, c, g0, xs)) (fun go2 => ?_) (fun go2 k hk hgo => ?_) N 0 (Nat.zero_le _) (by omega)).trans (by simp)
  · have e1 : (xs.take n).drop n = [] := by simp
    dsimp only
    rw [decide_eq_false (Int.lt_irrefl _), cond_false, if_pos (fits_nat (n := n) (by omega)), e1]
    rfl
  · have hk' : (k : Int) < (n : Int) := by omega
    have hkl : k < xs.length := by omega
    dsimp only
    rw [decide_eq_true hk', cond_true, idx_at hkl, Option.bind_some, idx_at hn, Option.bind_some, askIn_cons _ hk (by omega)]
    by_cases hd : xs[k].1 = xs[n].1
    · rw [decide_eq_true hd, cond_true, Bool.true_or, cond_true]
    · rw [decide_eq_false hd, cond_false, if_pos (fits_nat (n := k) (by omega)), Bool.false_or]
      simp only [cast_succ'] at hgo
      exact hgo
theorem l24Ok_spec (N : Nat) (c g : Int) (xs : List DItem2) (h : xs.length < N) (hN : (N : Int) ≤ 9223372036854775000) (hf : fewHits N xs) : s_l24Ok_m N c g xs = some (okCache c g xs) := by
  unfold s_l24Ok_m
  refine (iter_scan _ xs.length (fun n => ((n : Int), c, g, xs)) (fun n => some (okItems xs (xs.drop n) n && (decide (1 ≤ c ∧ c ≤ 5) && decide ((xs.length : Int) ≤ c) && decide (0 ≤ g ∧ g ≤ 999999999)))) (fun go => ?_) (fun go n hn hgo => ?_) N 0 (Nat.zero_le _) (by omega)).trans ?_
  · dsimp only
    rw [decide_eq_false (Int.lt_irrefl _), cond_false, l1In_spec, Option.bind_some, List.drop_length, okItems, Bool.true_and]
    cases h1 : decide (1 ≤ c ∧ c ≤ 5) with
    | false => rfl
    | true =>
      rw [cond_true, Bool.true_and]
      cases h2 : decide ((xs.length : Int) ≤ c) with
      | false => rfl
      | true => rw [cond_true, l1In_spec, Option.bind_some, Bool.true_and]
  · have hn' : (n : Int) < (xs.length : Int) := by omega
    have hx := hf xs[n] (List.getElem_mem hn)
    simp only [cast_succ'] at hgo
    dsimp only
    rw [decide_eq_true hn', cond_true, idx_at hn, Option.bind_some, List.drop_eq_getElem_cons hn, okItems, okItem, Option.bind_some, l13Ok_spec N _ hx (by omega), Option.bind_some]
    cases h4 : decide (xs[n].1 = []) with
    | true => rfl
    | false =>
      rw [cond_false]
      cases h5 : okFrom xs[n].2 xs[n].2 0 with
      | false => rfl
      | true =>
        rw [Bool.not_true, cond_false]
        refine (l24inner N go c g xs n hn _ (by omega) (by omega)).trans ?_
        rw [hgo]
        cases askIn xs[n].1 (xs.take n) <;> rfl
  · rw [List.drop_zero]
    unfold okCache
    cases okItems xs xs 0 <;> cases decide (1 ≤ c ∧ c ≤ 5) <;> cases decide (0 ≤ g ∧ g ≤ 999999999) <;> cases decide ((xs.length : Int) ≤ c) <;> rfl
end Go.Proofs.Ythodbhjnfeahhaa

/- Plain laws: caches without an item. -/
set_option linter.unusedVariables false
set_option linter.unusedSimpArgs false
namespace Go.Proofs.Ythodbhjnfeahhaa
open Go.RowKit
theorem room_of {n m b : Nat} (h : (n + m) * b ≤ 140737488355328) (h2 : ((n + m : Nat) : Int) ≤ 9223372036854775000) : room n m b := ⟨h, by omega⟩
def others (ask : List UInt8) (xs : List DItem2) : List DItem2 := xs.filter fun x => !decide (x.1 = ask)
theorem others_take (ask : List UInt8) (xs : List DItem2) (n : Nat) (h : n < xs.length) : others ask (xs.take (n + 1)) = others ask (xs.take n) ++ (if xs[n].1 = ask then [] else [xs[n]]) := by
  unfold others
  rw [List.take_succ_eq_append_getElem h, List.filter_append]
  congr 1
  by_cases e : xs[n].1 = ask <;> simp [e]
theorem without_spec (N : Nat) (c c2 : Int) (xs : List DItem2) (ask : List UInt8) (h : xs.length < N) (hN : N ≤ 1099511627776) (hf : fewHits N xs) : i_Cache_without_m N c c2 xs ask = some (others ask xs) := by
  unfold i_Cache_without_m
  refine (iter_scan _ xs.length (fun n => (ask, others ask (xs.take n), xs, (xs.length : Int), (n : Int))) (fun n => some (others ask xs)) (fun go => ?_) (fun go n hn hgo => ?_) N 0 (Nat.zero_le _) (by omega))
  · dsimp only
    rw [decide_eq_false (Int.lt_irrefl _), cond_false, List.take_length]
  · have hn' : (n : Int) < (xs.length : Int) := by omega
    have hx := hf xs[n] (List.getElem_mem hn)
    have hol : (others ask (xs.take n)).length ≤ n := by
      have := List.length_filter_le (fun x : DItem2 => !decide (x.1 = ask)) (xs.take n)
      simp only [List.length_take] at this
      unfold others
      omega
    simp only [cast_succ'] at hgo
    rw [others_take ask xs n hn] at hgo
    dsimp only
    rw [decide_eq_true hn', cond_true, idx_at hn, Option.bind_some]
    by_cases e : xs[n].1 = ask
    · rw [if_pos e, List.append_nil] at hgo
      rw [decide_eq_true e, Bool.not_true, cond_false, if_pos (fits_nat (n := n) (by omega))]
      exact hgo
    · rw [if_neg e] at hgo
      rw [decide_eq_false e, Bool.not_false, cond_true, if_pos (room_of (by simp only [List.length_nil]; omega) (by simp only [List.length_nil]; omega)), if_pos (room_of (by simp only [List.length_cons, List.length_nil]; omega) (by simp only [List.length_cons, List.length_nil]; omega)), if_pos (fits_nat (n := n) (by omega)), List.nil_append]
      exact hgo
end Go.Proofs.Ythodbhjnfeahhaa

/- Plain laws: a copy of a cache. -/
set_option linter.unusedVariables false
set_option linter.unusedSimpArgs false
namespace Go.Proofs.Ythodbhjnfeahhaa
open Go.RowKit
theorem copy_spec (N : Nat) (c c2 : Int) (xs : List DItem2) (h : xs.length < N) (hN : N ≤ 1099511627776) (hf : fewHits N xs) : s_l24Copy_m N c c2 xs = some (c, c2, xs) := by
  unfold s_l24Copy_m
  refine (iter_scan _ xs.length (fun n => ((n : Int), c, c2, xs, 0, 0, c, c2, xs.take n)) (fun n => some (c, c2, xs)) (fun go => ?_) (fun go n hn hgo => ?_) N 0 (Nat.zero_le _) (by omega))
  · dsimp only
    rw [decide_eq_false (Int.lt_irrefl _), cond_false, List.take_length]
  · have hn' : (n : Int) < (xs.length : Int) := by omega
    have hx := hf xs[n] (List.getElem_mem hn)
    have hol : (xs.take n).length ≤ n := by simp only [List.length_take]; omega
    simp only [cast_succ'] at hgo
    rw [List.take_succ_eq_append_getElem hn] at hgo
    dsimp only
    rw [decide_eq_true hn', cond_true, idx_at hn, Option.bind_some, Option.bind_some, if_pos (room_of (by simp only [List.length_nil]; omega) (by simp only [List.length_nil]; omega)), if_pos (room_of (by simp only [List.length_cons, List.length_nil]; omega) (by simp only [List.length_cons, List.length_nil]; omega)), if_pos (fits_nat (n := n) (by omega)), List.nil_append]
    exact hgo
end Go.Proofs.Ythodbhjnfeahhaa

/- Plain laws: items that are ok ask each once. -/
set_option linter.unusedVariables false
set_option linter.unusedSimpArgs false
namespace Go.Proofs.Ythodbhjnfeahhaa
open Go.RowKit
theorem okItems_at (xs : List DItem2) : ∀ (l : List DItem2) (n i : Nat) (hi : i < l.length), okItems xs l n = true → okItem xs (n + i) l[i] = true
  | [], _, _, h, _ => absurd h (Nat.not_lt_zero _)
  | x :: l, n, 0, _, h => by simp only [okItems, Bool.and_eq_true] at h; exact h.1
  | x :: l, n, i + 1, hi, h => by
    simp only [okItems, Bool.and_eq_true] at h
    have := okItems_at xs l (n + 1) i (by simpa using hi) h.2
    rw [show n + (i + 1) = n + 1 + i by omega]
    exact this
theorem ok_ask {xs : List DItem2} (h : okItems xs xs 0 = true) {i : Nat} (hi : i < xs.length) : xs[i].1 ≠ [] := by
  have := okItems_at xs xs 0 i hi h
  simp only [okItem, Bool.and_eq_true] at this
  simpa using this.1.1
theorem ok_once {xs : List DItem2} (h : okItems xs xs 0 = true) {i k : Nat} (hi : i < xs.length) (hk : k < i) : xs[k].1 ≠ xs[i].1 := by
  have := okItems_at xs xs 0 i hi h
  simp only [okItem, Bool.and_eq_true, Nat.zero_add, askIn, Bool.not_eq_true', List.any_eq_false] at this
  have h2 := this.2 xs[k] (by
    rw [List.mem_take_iff_getElem]
    exact ⟨k, by omega, rfl⟩)
  simpa using h2
theorem others_none {xs : List DItem2} (h : okItems xs xs 0 = true) : others [] xs = xs := by
  unfold others
  rw [List.filter_eq_self]
  intro x hx
  obtain ⟨i, hi, rfl⟩ := List.mem_iff_getElem.1 hx
  simpa using ok_ask h hi
end Go.Proofs.Ythodbhjnfeahhaa

/- Plain laws: what is got out of a cache. -/
set_option linter.unusedVariables false
set_option linter.unusedSimpArgs false
namespace Go.Proofs.Ythodbhjnfeahhaa
open Go.RowKit
theorem others_at {xs : List DItem2} (h : okItems xs xs 0 = true) {i : Nat} (hi : i < xs.length) : others xs[i].1 xs = xs.take i ++ xs.drop (i + 1) := by
  have e : xs = xs.take i ++ xs[i] :: xs.drop (i + 1) := by
    rw [← List.drop_eq_getElem_cons hi, List.take_append_drop]
  have h1 : others xs[i].1 (xs.take i) = xs.take i := by
    unfold others
    rw [List.filter_eq_self]
    intro x hx
    obtain ⟨k, hk, rfl⟩ := List.mem_iff_getElem.1 hx
    have hk' : k < i := by simp at hk; omega
    have := ok_once h hi hk'
    simpa using this
  have h2 : others xs[i].1 (xs.drop (i + 1)) = xs.drop (i + 1) := by
    unfold others
    rw [List.filter_eq_self]
    intro x hx
    obtain ⟨k, hk, rfl⟩ := List.mem_iff_getElem.1 hx
    simp only [List.length_drop] at hk
    have := ok_once h (i := i + 1 + k) (k := i) (by omega) (by omega)
    simp only [List.getElem_drop]
    simpa using fun e => this e.symm
  have h3 : others xs[i].1 xs = others xs[i].1 (xs.take i ++ xs[i] :: xs.drop (i + 1)) := by rw [← e]
  rw [h3]
  unfold others at h1 h2 ⊢
  rw [List.filter_append, List.filter_cons, h1, h2]
  simp
/-- Where an item is found. -/
theorem find_pos : ∀ (a : List UInt8) (xs : List DItem2) (i : Nat), (findFrom a xs (i : Int) = -1 ∧ askIn a xs = false) ∨ ∃ n : Nat, ∃ hn : n < xs.length, findFrom a xs (i : Int) = ((i + n : Nat) : Int) ∧ xs[n].1 = a ∧ askIn a (xs.take n) = false
  | a, [], i => .inl ⟨rfl, rfl⟩
  | a, x :: xs, i => by
    by_cases e : x.1 = a
    · exact .inr ⟨0, by simp, by simp [findFrom, e], e, rfl⟩
    · rcases find_pos a xs (i + 1) with ⟨h1, h2⟩ | ⟨n, hn, h1, h2, h3⟩
      · rw [cast_succ'] at h1
        exact .inl ⟨by simp only [findFrom, if_neg e]; exact h1, by simp only [askIn, List.any_cons, decide_eq_false e, Bool.false_or]; exact h2⟩
      · rw [cast_succ'] at h1
        refine .inr ⟨n + 1, by simpa using hn, ?_, h2, ?_⟩
        · simp only [findFrom, if_neg e]
          rw [h1]; omega
        · simp only [List.take_succ_cons, askIn, List.any_cons, decide_eq_false e, Bool.false_or]
          exact h3
end Go.Proofs.Ythodbhjnfeahhaa

/- Plain laws: impl.CacheGet. -/
set_option linter.unusedVariables false
set_option linter.unusedSimpArgs false
namespace Go.Proofs.Ythodbhjnfeahhaa
open Go.RowKit
theorem okCache_items {c g : Int} {xs : List DItem2} (h : okCache c g xs = true) : okItems xs xs 0 = true := by
  simp only [okCache, Bool.and_eq_true] at h; exact h.2
/-- What is got: the cache behind it, the hits, whether there are any. -/
inductive Got (c g : Int) (xs : List DItem2) (ask : List UInt8) (gen : Int) : Int × Int × List DItem2 × List DHit2 × Bool → Prop
  | bad (h : okCache c g xs = false) : Got c g xs ask gen (0, 0, [], [], false)
  | none (h : okCache c g xs = true) (hn : gen ≠ g ∨ askIn ask xs = false) : Got c g xs ask gen (c, g, xs, [], false)
  | got (h : okCache c g xs = true) (hg : gen = g) (n : Nat) (hn : n < xs.length) (ha : xs[n].1 = ask) : Got c g xs ask gen (c, g, xs[n] :: (xs.take n ++ xs.drop (n + 1)), xs[n].2, true)
theorem implGet_spec (M : Nat) (c g : Int) (xs : List DItem2) (ask : List UInt8) (gen : Int) (h : xs.length < M + 3) (hN : M + 3 ≤ 1099511627776) (hf : fewHits (M + 3) xs) : ∃ r, i_CacheGet_m (M + 3) c g xs ask gen = some r ∧ Got c g xs ask gen r := by
  unfold i_CacheGet_m
  rw [cacheOk_spec M c g xs h (by omega) hf, Option.bind_some]
  cases hok : okCache c g xs with
  | false => exact ⟨_, rfl, .bad hok⟩
  | true =>
    have hit := okCache_items hok
    rw [Bool.not_true, cond_false, find_spec (M + 3) c g xs ask h (by omega), Option.bind_some, without_spec (M + 3) c g xs [] h hN hf, others_none hit]
    by_cases hg : gen = g
    · rw [decide_eq_true hg, Bool.not_true, cond_false]
      rcases find_pos ask xs 0 with ⟨h1, h2⟩ | ⟨n, hn, h1, h2, h3⟩
      · have h1' : findFrom ask xs 0 = -1 := h1
        rw [h1']
        exact ⟨_, rfl, .none hok (.inr h2)⟩
      · have h1' : findFrom ask xs 0 = (n : Int) := by
          have : findFrom ask xs 0 = ((0 + n : Nat) : Int) := h1
          rwa [Nat.zero_add] at this
        have hneg : ¬ (n : Int) < 0 := by omega
        have hx := hf xs[n] (List.getElem_mem hn)
        have ho := others_at hit hn
        rw [h2] at ho
        rw [h1', decide_eq_false hneg, cond_false, idx_at hn, Option.bind_some, if_pos (room_of (by simp only [List.length_nil]; omega) (by simp only [List.length_nil]; omega)), without_spec (M + 3) c g xs ask h hN hf, Option.bind_some, ho,
          if_pos (room_of (by simp only [List.length_cons, List.length_nil, List.length_append, List.length_take, List.length_drop]; omega) (by simp only [List.length_cons, List.length_nil, List.length_append, List.length_take, List.length_drop]; omega))]
        rw [if_pos (room_of (by simp only [List.length_nil]; omega) (by simp only [List.length_nil]; omega))]
        refine ⟨_, rfl, ?_⟩
        have e : (ask, ([] : List DHit2) ++ xs[n].2) = xs[n] := by rw [List.nil_append, ← h2]
        rw [e]
        exact .got hok hg n hn h2
    · rw [decide_eq_false hg, Bool.not_false, cond_true]
      exact ⟨_, rfl, .none hok (.inl hg)⟩
end Go.Proofs.Ythodbhjnfeahhaa

/- Plain laws: spec.CacheGet. -/
set_option linter.unusedVariables false
set_option linter.unusedSimpArgs false
namespace Go.Proofs.Ythodbhjnfeahhaa
open Go.RowKit
theorem cut_tail {α : Type} (xs : List α) (n : Nat) (h : n ≤ xs.length) : cut xs (n : Int) (xs.length : Int) = some (xs.drop n) := by
  unfold cut
  rw [if_pos (by omega)]
  simp
theorem specGet_spec (M : Nat) (c g : Int) (xs : List DItem2) (ask : List UInt8) (gen : Int) (h : xs.length < M + 3) (hN : M + 3 ≤ 1099511627776) (hf : fewHits (M + 3) xs) : ∃ r, s_CacheGet_m (M + 3) c g xs ask gen = some r ∧ Got c g xs ask gen r := by
  unfold s_CacheGet_m
  rw [l24Ok_spec (M + 3) c g xs h (by omega) hf, Option.bind_some]
  cases hok : okCache c g xs with
  | false => exact ⟨_, rfl, .bad hok⟩
  | true =>
    rw [Bool.not_true, cond_false, copy_spec (M + 3) c g xs h hN hf, Option.bind_some]
    by_cases hg : gen = g
    · rcases find_pos ask xs 0 with ⟨h1, h2⟩ | ⟨m, hm, h1, h2, h3⟩
      · refine ⟨(c, g, xs, [], false), ?_, .none hok (.inr h2)⟩
        refine (iter_scan _ xs.length (fun n => (ask, gen, (n : Int), c, g, xs, 0, 0, c, g, xs)) (fun n => some (c, g, xs, [], false)) (fun go => ?_) (fun go n hn hgo => ?_) (M + 3) 0 (Nat.zero_le _) (by omega))
        · dsimp only
          rw [decide_eq_false (Int.lt_irrefl _), cond_false]
        · have hn' : (n : Int) < (xs.length : Int) := by omega
          have hne : ¬ xs[n].1 = ask := by
            simp only [askIn, List.any_eq_false] at h2
            simpa using h2 xs[n] (List.getElem_mem hn)
          simp only [cast_succ'] at hgo
          dsimp only
          rw [decide_eq_true hn', cond_true, decide_eq_true hg, cond_true, idx_at hn, Option.bind_some, decide_eq_false hne, cond_false, if_pos (fits_nat (n := n) (by omega))]
          exact hgo
      · refine ⟨(c, g, xs[m] :: (xs.take m ++ xs.drop (m + 1)), xs[m].2, true), ?_, .got hok hg m hm h2⟩
        have hx := hf xs[m] (List.getElem_mem hm)
        refine (iter_scan _ m (fun n => (ask, gen, (n : Int), c, g, xs, 0, 0, c, g, xs)) (fun n => some (c, g, xs[m] :: (xs.take m ++ xs.drop (m + 1)), xs[m].2, true)) (fun go => ?_) (fun go n hn hgo => ?_) (M + 3) 0 (Nat.zero_le _) (by omega))
        · have hm' : (m : Int) < (xs.length : Int) := by omega
          have ec : cut xs ((m : Int) + 1) (xs.length : Int) = some (xs.drop (m + 1)) := by
            rw [← cast_succ']; exact cut_tail xs (m + 1) (by omega)
          dsimp only
          rw [decide_eq_true hm', cond_true, decide_eq_true hg, cond_true, idx_at hm, Option.bind_some, decide_eq_true h2, cond_true, Option.bind_some, cut_spec xs m (by omega), Option.bind_some,
            if_pos (room_of (by simp only [List.length_cons, List.length_nil, List.length_take]; omega) (by simp only [List.length_cons, List.length_nil, List.length_take]; omega)), if_pos (fits_nat (n := m) (by omega)), ec, Option.bind_some,
            if_pos (room_of (by simp only [List.length_cons, List.length_nil, List.length_append, List.length_take, List.length_drop]; omega) (by simp only [List.length_cons, List.length_nil, List.length_append, List.length_take, List.length_drop]; omega)),
            if_pos (room_of (by simp only [List.length_nil]; omega) (by simp only [List.length_nil]; omega))]
          rfl
        · have hml : n < xs.length := by omega
          have hn' : (n : Int) < (xs.length : Int) := by omega
          have hne : ¬ xs[n].1 = ask := by
            simp only [askIn, List.any_eq_false] at h3
            simpa using h3 xs[n] (by rw [List.mem_take_iff_getElem]; exact ⟨n, by omega, rfl⟩)
          simp only [cast_succ'] at hgo
          dsimp only
          rw [decide_eq_true hn', cond_true, decide_eq_true hg, cond_true, idx_at hml, Option.bind_some, decide_eq_false hne, cond_false, if_pos (fits_nat (n := n) (by omega))]
          exact hgo
    · refine ⟨(c, g, xs, [], false), ?_, .none hok (.inl hg)⟩
      refine (iter_scan _ 0 (fun n => (ask, gen, (n : Int), c, g, xs, 0, 0, c, g, xs)) (fun n => some (c, g, xs, [], false)) (fun go => ?_) (fun go n hn hgo => by omega) (M + 3) 0 (Nat.zero_le _) (by omega))
      dsimp only
      rw [decide_eq_false hg, cond_false]
      cases decide (((0 : Nat) : Int) < (xs.length : Int)) <;> rfl
end Go.Proofs.Ythodbhjnfeahhaa

/- Plain laws: both answers of CacheGet are one. -/
set_option linter.unusedVariables false
set_option linter.unusedSimpArgs false
namespace Go.Proofs.Ythodbhjnfeahhaa
open Go.RowKit
theorem askIn_of {a : List UInt8} {xs : List DItem2} {n : Nat} (hn : n < xs.length) (h : xs[n].1 = a) : askIn a xs = true := by
  simp only [askIn, List.any_eq_true]
  exact ⟨xs[n], List.getElem_mem hn, by simpa using h⟩
theorem Got.same {c g : Int} {xs : List DItem2} {ask : List UInt8} {gen : Int} {r r' : Int × Int × List DItem2 × List DHit2 × Bool} (h : Got c g xs ask gen r) (h' : Got c g xs ask gen r') : r = r' := by
  cases h with
  | bad h1 => cases h' with
    | bad _ => rfl
    | none h2 _ => rw [h1] at h2; cases h2
    | got h2 _ _ _ _ => rw [h1] at h2; cases h2
  | none h1 hn => cases h' with
    | bad h2 => rw [h1] at h2; cases h2
    | none _ _ => rfl
    | got h2 hg n hl ha =>
      rcases hn with hn | hn
      · exact absurd hg hn
      · rw [askIn_of hl ha] at hn; cases hn
  | got h1 hg n hl ha => cases h' with
    | bad h2 => rw [h1] at h2; cases h2
    | none _ hn =>
      rcases hn with hn | hn
      · exact absurd hg hn
      · rw [askIn_of hl ha] at hn; cases hn
    | got _ _ m hm hb =>
      have hit := okCache_items h1
      have e : n = m := by
        rcases Nat.lt_trichotomy n m with hlt | he | hlt
        · exact absurd (ha.trans hb.symm) (ok_once hit hm hlt)
        · exact he
        · exact absurd (hb.trans ha.symm) (ok_once hit hl hlt)
      subst e
      rfl
/-- Both answers are one. -/
theorem get_same (M : Nat) (c g : Int) (xs : List DItem2) (ask : List UInt8) (gen : Int) (h : xs.length < M + 3) (hN : M + 3 ≤ 1099511627776) (hf : fewHits (M + 3) xs) : ∃ r, i_CacheGet_m (M + 3) c g xs ask gen = some r ∧ s_CacheGet_m (M + 3) c g xs ask gen = some r ∧ Got c g xs ask gen r := by
  obtain ⟨r, h1, h2⟩ := implGet_spec M c g xs ask gen h hN hf
  obtain ⟨r', h3, h4⟩ := specGet_spec M c g xs ask gen h hN hf
  obtain rfl := h2.same h4
  exact ⟨r, h1, h3, h2⟩
end Go.Proofs.Ythodbhjnfeahhaa

/- Plain laws: a logic of totals; what the reader of draws gives. -/
set_option linter.unusedVariables false
set_option linter.unusedSimpArgs false
namespace Go.Proofs.Ythodbhjnfeahhaa
open Go.RowKit
/-- It gives a result, and that is as told. -/
def Def {α : Type} (m : Option α) (P : α → Prop) : Prop := ∃ r, m = some r ∧ P r
theorem Def.ret {α : Type} {x : α} {P : α → Prop} (h : P x) : Def (some x) P := ⟨x, rfl, h⟩
theorem Def.mono {α : Type} {m : Option α} {P Q : α → Prop} (h : Def m P) (hq : ∀ r, P r → Q r) : Def m Q := by
  obtain ⟨r, h1, h2⟩ := h
  exact ⟨r, h1, hq r h2⟩
theorem Def.bind {α β : Type} {m : Option α} {f : α → Option β} {P : α → Prop} {Q : β → Prop} (h : Def m P) (hf : ∀ r, P r → Def (f r) Q) : Def (Option.bind m f) Q := by
  obtain ⟨r, rfl, h2⟩ := h
  exact hf r h2
theorem Def.bif {α : Type} {b : Bool} {x y : Option α} {P : α → Prop} (h1 : b = true → Def x P) (h2 : b = false → Def y P) : Def (bif b then x else y) P := by
  cases b
  · exact h2 rfl
  · exact h1 rfl
theorem Def.dif {α : Type} {p : Prop} [Decidable p] {x y : Option α} {P : α → Prop} (h1 : p → Def x P) (h2 : ¬ p → Def y P) : Def (bif decide p then x else y) P :=
  Def.bif (fun h => h1 (of_decide_eq_true h)) (fun h => h2 (of_decide_eq_false h))
theorem Def.ite {α : Type} {p : Prop} [Decidable p] {x : Option α} {P : α → Prop} (hp : p) (h : Def x P) : Def (if p then x else none) P := by
  rw [if_pos hp]; exact h
theorem Def.eq {α : Type} {m : Option α} {x : α} (h : m = some x) : Def m (fun r => r = x) := ⟨x, h, rfl⟩
theorem Def.get {α : Type} {m : Option α} {x : α} (h : Def m (fun r => r = x)) : m = some x := by
  obtain ⟨r, h1, rfl⟩ := h
  exact h1
theorem Def.idx {α β : Type} {xs : List α} {i : Int} {f : α → Option β} {Q : β → Prop} (h0 : 0 ≤ i) (h1 : i < xs.length) (h : ∀ x, x ∈ xs → xs[i.toNat]? = some x → Def (f x) Q) : Def (Option.bind (idx xs i) f) Q := by
  have hl : i.toNat < xs.length := by omega
  have e : Go.Proofs.Ythodbhjnfeahhaa.idx xs i = some xs[i.toNat] := by simp only [Go.Proofs.Ythodbhjnfeahhaa.idx, if_pos h0, List.getElem?_eq_getElem hl]
  rw [e]
  exact h _ (List.getElem_mem hl) (List.getElem?_eq_getElem hl)
theorem Def.cut {α β : Type} {xs : List α} {l h : Int} {f : List α → Option β} {Q : β → Prop} (h0 : 0 ≤ l) (h1 : l ≤ h) (h2 : h ≤ xs.length) (hf : Def (f ((xs.take h.toNat).drop l.toNat)) Q) : Def (Option.bind (cut xs l h) f) Q := by
  unfold Go.Proofs.Ythodbhjnfeahhaa.cut
  rw [if_pos ⟨h0, h1, h2⟩]
  exact hf
theorem Def.meet {δ ρ : Type} {J : δ → Option ρ} {X : (δ → Option ρ) → Option ρ} {P : ρ → Prop} (I : δ → Prop) (hJ : ∀ g, I g → Def (J g) P) (hX : ∀ J' : δ → Option ρ, (∀ g, I g → Def (J' g) P) → Def (X J') P) : Def (meet J X) P := hX J hJ
theorem Def.iter {δ ρ : Type} {F : (δ → Option ρ) → δ → Option ρ} {P : ρ → Prop} (I : δ → Prop) (meas : δ → Nat) (hstep : ∀ go g, I g → (∀ g', I g' → meas g' < meas g → Def (go g') P) → Def (F go g) P) : ∀ N g, I g → meas g < N → Def (iter F N g) P
  | 0, g, _, h => absurd h (Nat.not_lt_zero _)
  | N + 1, g, hI, h => hstep _ g hI fun g' hI' hm => Def.iter I meas hstep N g' hI' (by omega)
/-- A loop that counts up to len: the invariant at each place. -/
theorem Def.upto {δ ρ : Type} {F : (δ → Option ρ) → δ → Option ρ} {P : ρ → Prop} (len : Nat) (I : Nat → δ → Prop) (hend : ∀ go g, I len g → Def (F go g) P) (hstep : ∀ go n g, n < len → I n g → (∀ g', I (n + 1) g' → Def (go g') P) → Def (F go g) P) : ∀ N n g, n ≤ len → I n g → len - n < N → Def (Go.Proofs.Ythodbhjnfeahhaa.iter F N g) P
  | 0, n, g, _, _, h => absurd h (Nat.not_lt_zero _)
  | N + 1, n, g, hn, hI, h => by
    show Def (F (Go.Proofs.Ythodbhjnfeahhaa.iter F N) g) P
    by_cases e : n = len
    · subst e; exact hend _ g hI
    · exact hstep _ n g (by omega) hI fun g' hI' => Def.upto len I hend hstep N (n + 1) g' (by omega) hI' (by omega)
/-! ### the reader -/
def Rdr (b : List Int) (k : Int) (j : Nat) : Prop := Bs b ∧ b.length ≤ 2000 ∧ 0 ≤ k ∧ k ≤ j
theorem Rdr.le {b : List Int} {k : Int} {j j' : Nat} (h : Rdr b k j) (hj : j ≤ j') : Rdr b k j' := ⟨h.1, h.2.1, h.2.2.1, by have := h.2.2.2; omega⟩
theorem pick_def (N : Nat) (n : Int) {b : List Int} {k : Int} {j : Nat} (h : Rdr b k j) (hj : j ≤ 1000000) : Def (s_l30Rd_pick_m N n b k) fun r => 0 ≤ r.1 ∧ (1 ≤ n → r.1 < n) ∧ (n < 1 → r.1 = 0) ∧ Rdr r.2.1 r.2.2 (j + 1) := by
  obtain ⟨v, h1, h2, h3, h4⟩ := pick_spec N n b k h.1 h.2.2.1 (by have := h.2.2.2; omega) h.2.1
  exact ⟨_, h1, h2, h3, h4, h.1, h.2.1, by have := h.2.2.1; show (0:Int) ≤ k + 1; omega, by have := h.2.2.2; show k + 1 ≤ ((j + 1 : Nat) : Int); omega⟩
theorem of_def (N : Nat) {l : List (List UInt8)} {b : List Int} {k : Int} {j : Nat} (hl : 0 < l.length) (h : Rdr b k j) (hj : j ≤ 1000000) : Def (s_l30Rd_of_m N l b k) fun r => r.1 ∈ l ∧ Rdr r.2.1 r.2.2 (j + 1) := by
  unfold s_l30Rd_of_m
  refine Def.bind (pick_def N _ h hj) fun r ⟨h0, h1, _, h3⟩ => ?_
  exact Def.idx h0 (h1 (by omega)) fun x hx _ => Def.ret ⟨hx, h3⟩
theorem one_def (N : Nat) {l : List Int} {b : List Int} {k : Int} {j : Nat} (hl : 0 < l.length) (h : Rdr b k j) (hj : j ≤ 1000000) : Def (s_l30Rd_one_m N l b k) fun r => r.1 ∈ l ∧ Rdr r.2.1 r.2.2 (j + 1) := by
  unfold s_l30Rd_one_m
  refine Def.bind (pick_def N _ h hj) fun r ⟨h0, h1, _, h3⟩ => ?_
  exact Def.idx h0 (h1 (by omega)) fun x hx _ => Def.ret ⟨hx, h3⟩
theorem open_def (N : Nat) {code : List Int} (hb : Bs code) : Def (s_l30Open_m N code) fun r => Rdr r.1 r.2 0 := by
  obtain ⟨y, h1, h2, h3⟩ := open_spec N code hb
  exact ⟨_, h1, h2, h3, Int.le_refl _, Int.le_refl _⟩
/-- A leaf that is drawn. -/
structure LeafOk (q : Int) (f : List UInt8) (ws : List (List UInt8)) (a b : Int) : Prop where
  kind : 1 ≤ q ∧ q ≤ 6
  field : f.length ≤ 10
  words : ws.length ≤ 2
  word : ∀ w, w ∈ ws → w.length ≤ 10
  some : q = 2 ∨ q = 4 ∨ q = 5 → 0 < ws.length
  lo : 0 ≤ a ∧ a ≤ 10
  hi : 0 ≤ b ∧ b ≤ 10
theorem known_mem (N : Nat) : Def (s_l30Known_m N) fun r => 0 < r.length ∧ ∀ w, w ∈ r → w.length ≤ 10 := ⟨_, rfl, by decide, by decide⟩
theorem leaf_def (N : Nat) {b : List Int} {k : Int} {j : Nat} (h : Rdr b k j) (hj : j ≤ 100000) : Def (s_l30Leaf_m N b k) fun r => LeafOk r.1 r.2.1 r.2.2.1 r.2.2.2.1 r.2.2.2.2.1 ∧ Rdr r.2.2.2.2.2.1 r.2.2.2.2.2.2 (j + 10) := by
  unfold s_l30Leaf_m
  refine Def.bind (of_def N (by decide) h (by omega)) fun r ⟨m1, h1⟩ => ?_
  have hf : r.1.length ≤ 10 := (by decide : ∀ w, w ∈ ([([98, 111, 100, 121] : List UInt8), ([98, 111, 100, 121] : List UInt8), ([116, 105, 116, 108, 101] : List UInt8)] : List (List UInt8)) → w.length ≤ 10) _ m1
  refine Def.bind (pick_def N 9 h1 (by omega)) fun r2 ⟨p0, p1, _, h2⟩ => ?_
  have p1 := p1 (by omega)
  refine Def.dif (fun e => ?_) (fun e => ?_)
  · exact Def.ret ⟨⟨by simp, by simp, by simp, by simp, by simp, by simp, by simp⟩, h2.le (by omega)⟩
  refine Def.dif (fun e1 => ?_) (fun e1 => ?_)
  · refine Def.bind (known_mem N) fun r3 ⟨k1, k2⟩ => ?_
    refine Def.bind (of_def N k1 h2 (by omega)) fun r4 ⟨m4, h4⟩ => ?_
    refine Def.bind (known_mem N) fun r5 ⟨k3, k4⟩ => ?_
    refine Def.bind (of_def N k3 h4 (by omega)) fun r6 ⟨m6, h6⟩ => ?_
    refine Def.bind (pick_def N 3 h6 (by omega)) fun r7 ⟨q0, q1, _, h7⟩ => ?_
    have q1 := q1 (by omega)
    exact Def.ret ⟨⟨by simp, hf, by simp, (by simpa using ⟨k2 _ m4, k4 _ m6⟩), by simp, ⟨q0, (show r7.1 ≤ 10 by omega)⟩, by simp⟩, h7.le (by omega)⟩
  refine Def.dif (fun e2 => ?_) (fun e2 => ?_)
  · refine Def.bind (of_def N (by decide) h2 (by omega)) fun r8 ⟨m8, h8⟩ => ?_
    have hw : r8.1.length ≤ 10 := (by decide : ∀ w, w ∈ ([([99, 111, 116] : List UInt8), ([100, 117, 103] : List UInt8), ([114, 110] : List UInt8), ([102, 111, 103] : List UInt8)] : List (List UInt8)) → w.length ≤ 10) _ m8
    refine Def.bind (pick_def N 2 h8 (by omega)) fun r9 ⟨q0, q1, _, h9⟩ => ?_
    have q1 := q1 (by omega)
    refine Def.ite (by unfold fits; omega) ?_
    exact Def.ret ⟨⟨by simp, hf, by simp, (by simpa using hw), (fun _ => by simp), ⟨(show 0 ≤ 1 + r9.1 by omega), (show 1 + r9.1 ≤ 10 by omega)⟩, by simp⟩, h9.le (by omega)⟩
  refine Def.dif (fun e3 => ?_) (fun e3 => ?_)
  · refine Def.bind (of_def N (by decide) h2 (by omega)) fun r10 ⟨m10, h10⟩ => ?_
    have hw : r10.1.length ≤ 10 := (by decide : ∀ w, w ∈ ([([99, 42] : List UInt8), ([63, 111, 63] : List UInt8), ([42, 110] : List UInt8), ([42] : List UInt8)] : List (List UInt8)) → w.length ≤ 10) _ m10
    exact Def.ret ⟨⟨by simp, hf, by simp, (by simpa using hw), (fun _ => by simp), by simp, by simp⟩, h10.le (by omega)⟩
  refine Def.dif (fun e4 => ?_) (fun e4 => ?_)
  · refine Def.bind (pick_def N 4 h2 (by omega)) fun r11 ⟨q0, q1, _, h11⟩ => ?_
    refine Def.bind (pick_def N 3 h11 (by omega)) fun r12 ⟨s0, s1, _, h12⟩ => ?_
    have q1 := q1 (by omega)
    have s1 := s1 (by omega)
    refine Def.ite (by unfold fits; omega) ?_
    exact Def.ret ⟨⟨by simp, by simp, by simp, by simp, by simp, ⟨q0, (show r11.1 ≤ 10 by omega)⟩, ⟨(show 0 ≤ r11.1 + r12.1 by omega), (show r11.1 + r12.1 ≤ 10 by omega)⟩⟩, h12.le (by omega)⟩
  · refine Def.bind (known_mem N) fun r13 ⟨k1, k2⟩ => ?_
    refine Def.bind (of_def N k1 h2 (by omega)) fun r14 ⟨m14, h14⟩ => ?_
    exact Def.ret ⟨⟨by simp, hf, by simp, (by simpa using k2 _ m14), (fun _ => by simp), by simp, by simp⟩, h14.le (by omega)⟩
/-- Figures of a number that is not great. -/
theorem dec_def (N : Nat) : ∀ (D : Nat) (n : Int), D ≤ 1000000 → 0 ≤ n → n ≤ 999999999999999 → n < 10 ^ (D + 1) → Def (s_l1Dec_m N (D + 1) n) fun r => r.length ≤ D + 1
  | D, n, hD, h0, hn, h1 => by
    unfold s_l1Dec_m
    refine Def.dif (fun e => absurd e (by omega)) (fun _ => ?_)
    refine Def.dif (fun e => absurd e (by omega)) (fun _ => ?_)
    refine Def.dif (fun e => ?_) (fun e => ?_)
    · refine Def.ite (by unfold fits; omega) (Def.ret ?_)
      simp [bytesOf]
    · have d0 : 0 ≤ n.tdiv 10 := Int.tdiv_nonneg h0 (by omega)
      have d2 : n.tdiv 10 ≤ n := by
        rw [Int.tdiv_eq_ediv_of_nonneg h0]; omega
      have d1 : n.tdiv 10 < 10 ^ D := by
        rw [Int.tdiv_eq_ediv_of_nonneg h0]
        rw [Int.pow_succ] at h1
        omega
      have m0 : 0 ≤ n.tmod 10 := Int.tmod_nonneg 10 h0
      have m1 : n.tmod 10 < 10 := Int.tmod_lt_of_pos n (by omega)
      have hne : D ≠ 0 := fun e => by
        subst e
        rw [Int.pow_succ, Int.pow_zero] at h1
        omega
      obtain ⟨E, rfl⟩ : ∃ E, D = E + 1 := ⟨D - 1, by omega⟩
      refine Def.ite (by decide) (Def.ite (by unfold fits; omega) ?_)
      refine Def.bind (dec_def N E _ (by omega) d0 (by omega) d1) fun r hr => ?_
      refine Def.ite (by decide) (Def.ite (by unfold fits; omega) (Def.ite ?_ (Def.ret ?_)))
      · simp [bytesOf]; omega
      · simp [bytesOf]; omega
end Go.Proofs.Ythodbhjnfeahhaa

/- Plain laws: what is drawn for the cache. -/
set_option linter.unusedVariables false
set_option linter.unusedSimpArgs false
namespace Go.Proofs.Ythodbhjnfeahhaa
open Go.RowKit
theorem dec_small (N D : Nat) (hD : 9 ≤ D) (hD2 : D ≤ 1000000) (n : Int) (h0 : 0 ≤ n) (h1 : n ≤ 10) : Def (s_l1Dec_m N D n) fun r => r.length ≤ D := by
  obtain ⟨E, rfl⟩ : ∃ E, D = E + 1 := ⟨D - 1, by omega⟩
  refine dec_def N E n (by omega) h0 (by omega) ?_
  have h2 : (10 : Nat) ^ 9 ≤ 10 ^ (E + 1) := Nat.pow_le_pow_right (by decide) hD
  have h3 : ((10 ^ (E + 1) : Nat) : Int) = (10 : Int) ^ (E + 1) := by simp
  rw [← h3]
  omega
theorem join_def (N : Nat) (ws : List (List UInt8)) (sign : List UInt8) (hs : sign.length ≤ 10) (hw : ws.length ≤ 2) (hl : ∀ w, w ∈ ws → w.length ≤ 10) (hN : 4 ≤ N) : Def (s_l11Join_m N ws sign) fun r => r.length ≤ 100 := by
  unfold s_l11Join_m
  refine Def.upto ws.length (fun n g => ∃ out : List UInt8, out.length ≤ 20 * n ∧ g = (ws, sign, out, (n : Int))) ?_ ?_ N 0 _ (Nat.zero_le _) ⟨_, by simp, rfl⟩ (by omega)
  · rintro go _ ⟨out, h3, rfl⟩
    dsimp only
    exact Def.dif (fun e => absurd e (by omega)) (fun _ => Def.ret (by omega))
  · rintro go n _ hn ⟨out, h3, rfl⟩ hgo
    dsimp only
    refine Def.dif (fun e => ?_) (fun e => absurd (by omega) e)
    refine Def.meet (fun g => ∃ out : List UInt8, out.length ≤ 20 * n + 10 ∧ g = (ws, sign, out, (n : Int))) ?_ ?_
    · rintro _ ⟨out, h4, rfl⟩
      dsimp only
      refine Def.idx (by omega) e fun x hx _ => ?_
      have := hl x hx
      refine Def.ite (by omega) (Def.ite (by unfold fits; omega) (hgo _ ⟨_, ?_, by rw [cast_succ']⟩))
      simp only [List.length_append]; omega
    · intro J hJ
      refine Def.dif (fun e => ?_) (fun e => ?_)
      · refine Def.ite (by omega) (hJ _ ⟨_, ?_, rfl⟩)
        simp only [List.length_append]; omega
      · exact hJ _ ⟨_, by omega, rfl⟩
theorem put_def (N D : Nat) (hD : 9 ≤ N) (hN2 : N ≤ 1000000) (q : Int) (f : List UInt8) (ws : List (List UInt8)) (a b : Int) (h : LeafOk q f ws a b) : Def (s_l11Put_m N (D + 1) q f ws a b []) fun r => True := by
  have dec := fun n h0 h1 => dec_small N N hD hN2 n h0 h1
  unfold s_l11Put_m
  refine Def.bind (dec a h.lo.1 h.lo.2) fun r hr => ?_
  refine Def.ite (by simp only [List.length_cons, List.length_nil]; omega) ?_
  refine Def.dif (fun e => Def.ret trivial) (fun e1 => ?_)
  have hf := h.field
  have hk := h.kind
  refine Def.meet (fun g => ∃ heads t15 kids, (t15 = true → q = 2 ∨ q = 5) ∧ (t15 = false → q ≠ 2 ∧ q ≠ 5) ∧ g = (heads, q, t15, q, f, ws, a, b, kids)) ?_ ?_
  · rintro _ ⟨heads, t15, kids, h1, h2, rfl⟩
    dsimp only
    have hidx : (q = 2 ∨ q = 4 ∨ q = 5) → (0 : Int) < ws.length := fun hh => by have := h.some hh; omega
    refine Def.bif (fun e => ?_) (fun e => ?_)
    · refine Def.ite (by simp only [List.length_cons, List.length_nil]; omega) ?_
      refine Def.idx (by omega) (hidx (by have := h1 e; omega)) fun x hx _ => ?_
      have := h.word x hx
      exact Def.ite (by simp only [List.length_append, List.length_cons, List.length_nil]; omega) (Def.ret trivial)
    have h2 := h2 e
    refine Def.dif (fun e => ?_) (fun e3 => ?_)
    · refine Def.ite (by simp only [List.length_cons, List.length_nil]; omega) ?_
      refine Def.bind (join_def N ws _ (by decide) h.words h.word (by omega)) fun r2 hr2 => ?_
      refine Def.ite (by simp only [List.length_append, List.length_cons, List.length_nil]; omega) ?_
      refine Def.ite (by simp only [List.length_append, List.length_cons, List.length_nil]; omega) ?_
      refine Def.bind (dec a h.lo.1 h.lo.2) fun r3 hr3 => ?_
      exact Def.ite (by simp only [List.length_append, List.length_cons, List.length_nil]; omega) (Def.ret trivial)
    refine Def.dif (fun e => ?_) (fun e4 => ?_)
    · refine Def.ite (by simp only [List.length_cons, List.length_nil]; omega) ?_
      refine Def.idx (by omega) (hidx (by omega)) fun x hx _ => ?_
      have := h.word x hx
      refine Def.ite (by simp only [List.length_append, List.length_cons, List.length_nil]; omega) ?_
      refine Def.ite (by simp only [List.length_append, List.length_cons, List.length_nil]; omega) ?_
      refine Def.bind (dec a h.lo.1 h.lo.2) fun r3 hr3 => ?_
      exact Def.ite (by simp only [List.length_append, List.length_cons, List.length_nil]; omega) (Def.ret trivial)
    refine Def.dif (fun e => ?_) (fun e6 => absurd hk (by omega))
    · refine Def.ite (by simp only [List.length_cons, List.length_nil]; omega) ?_
      refine Def.bind (dec a h.lo.1 h.lo.2) fun r3 hr3 => ?_
      refine Def.ite (by simp only [List.length_append, List.length_cons, List.length_nil]; omega) ?_
      refine Def.ite (by simp only [List.length_append, List.length_cons, List.length_nil]; omega) ?_
      refine Def.bind (dec b h.hi.1 h.hi.2) fun r4 hr4 => ?_
      exact Def.ite (by simp only [List.length_append, List.length_cons, List.length_nil]; omega) (Def.ret trivial)
  · intro J hJ
    refine Def.dif (fun e => hJ _ ⟨_, _, _, (fun _ => .inl e), (fun h => by cases h), rfl⟩) (fun e => hJ _ ⟨_, _, _, (fun h => .inr (by simpa using h)), (fun h => ⟨e, by simpa using h⟩), rfl⟩)
theorem push_def (N : Nat) (xs : List (Int × Int)) (h h2 : Int) (hx : xs.length ≤ 12) (hN : 14 ≤ N) : Def (s_l13Push_m N xs h h2 16) fun r => r.length ≤ xs.length + 1 := by
  unfold s_l13Push_m
  have fin : ∀ n : Nat, n ≤ xs.length → Def (Option.bind (cut xs 0 (n : Int)) fun (y4 : List (Int × Int)) =>
          (if room ([] : List (Int × Int)).length y4.length 16 then
            (if room (([] : List (Int × Int)) ++ y4).length ([(h, h2)] : List (Int × Int)).length 16 then
              (Option.bind (cut xs (n : Int) (xs.length : Int)) fun (y5 : List (Int × Int)) =>
                (if room ((([] : List (Int × Int)) ++ y4) ++ ([(h, h2)] : List (Int × Int))).length y5.length 16 then
                  (bif (decide ((16 : Int) < ((((([] : List (Int × Int)) ++ y4) ++ ([(h, h2)] : List (Int × Int))) ++ y5).length : Int))) then
                    (Option.bind (cut (((([] : List (Int × Int)) ++ y4) ++ ([(h, h2)] : List (Int × Int))) ++ y5) 0 16) fun (y6 : List (Int × Int)) =>
                      (some y6))
                    else
                    (some (((([] : List (Int × Int)) ++ y4) ++ ([(h, h2)] : List (Int × Int))) ++ y5)))
                  else none))
              else none)
            else none)) fun r => r.length ≤ xs.length + 1 := fun n hn => by
    refine Def.cut (by omega) (by omega) (by omega) ?_
    have l1 : ((xs.take ((n : Int)).toNat).drop (0 : Int).toNat).length = n := by simp; omega
    refine Def.ite (room_of (by rw [l1]; simp only [List.length_nil]; omega) (by rw [l1]; simp only [List.length_nil]; omega)) ?_
    refine Def.ite (room_of (by simp only [List.nil_append, l1, List.length_cons, List.length_nil]; omega) (by simp only [List.nil_append, l1, List.length_cons, List.length_nil]; omega)) ?_
    refine Def.cut (by omega) (by omega) (by omega) ?_
    have l2 : ((xs.take ((xs.length : Int)).toNat).drop ((n : Int)).toNat).length = xs.length - n := by simp
    refine Def.ite (room_of (by simp only [List.nil_append, List.length_append, l1, l2, List.length_cons, List.length_nil]; omega) (by simp only [List.nil_append, List.length_append, l1, l2, List.length_cons, List.length_nil]; omega)) ?_
    refine Def.dif (fun e => ?_) (fun e => Def.ret ?_)
    · simp only [List.nil_append, List.length_append, l1, l2, List.length_cons, List.length_nil] at e; omega
    · simp only [List.nil_append, List.length_append, l1, l2, List.length_cons, List.length_nil]; omega
  refine Def.upto xs.length (fun n g => g = (xs, 16, (n : Int), h, h2)) ?_ ?_ N 0 _ (Nat.zero_le _) rfl (by omega)
  · rintro go _ rfl
    dsimp only
    exact Def.dif (fun e => absurd e (by omega)) (fun _ => fin _ (Nat.le_refl _))
  · rintro go n _ hn rfl hgo
    dsimp only
    refine Def.dif (fun e => ?_) (fun e => absurd (by omega) e)
    refine Def.idx (by omega) e fun x hx _ => ?_
    rw [less_spec N x (h, h2), Option.bind_some]
    refine Def.bif (fun _ => ?_) (fun _ => fin n (by omega))
    exact Def.ite (by unfold fits; omega) (hgo _ (by rw [cast_succ']))
theorem hits_def (N : Nat) {b : List Int} {k : Int} {j : Nat} (hr : Rdr b k j) (hj : j ≤ 100000) (hN : 20 ≤ N) : Def (s_l30Hits_m N b k) fun r => r.1.length ≤ 5 ∧ Rdr r.2.1 r.2.2 (j + 11) := by
  unfold s_l30Hits_m
  refine Def.bind (pick_def N 6 hr (by omega)) fun r ⟨p0, p1, _, h1⟩ => ?_
  have p1 := p1 (by omega)
  refine Def.iter (fun g => 0 ≤ g.2.1 ∧ g.2.1 ≤ 5 ∧ (g.1.length : Int) ≤ 5 - g.2.1 ∧ Rdr g.2.2.1 g.2.2.2 (j + 11 - 2 * g.2.1.toNat)) (fun g => g.2.1.toNat) ?_ N _ ⟨p0, (show r.1 ≤ 5 by omega), (show ((0 : Nat) : Int) ≤ 5 - r.1 by omega), h1.le (show j + 1 ≤ j + 11 - 2 * r.1.toNat by omega)⟩ (show r.1.toNat < N by omega)
  rintro go ⟨out, n, b3, b4⟩ ⟨h2, h3, h4, h5⟩ hgo
  dsimp only at h2 h3 h4 h5 ⊢
  refine Def.dif (fun e => ?_) (fun e => Def.ret ⟨(show out.length ≤ 5 by omega), h5.le (by omega)⟩)
  refine Def.bind (pick_def N 8 h5 (by omega)) fun r2 ⟨q0, q1, _, h6⟩ => ?_
  have q1 := q1 (by omega)
  refine Def.ite (by unfold fits; omega) ?_
  refine Def.bind (pick_def N 5 h6 (by omega)) fun r3 ⟨s0, s1, _, h7⟩ => ?_
  have s1 := s1 (by omega)
  refine Def.ite (by unfold fits; omega) ?_
  refine Def.upto out.length (fun m g => ∃ is, g = (out, n, is, (m : Int), 1 + r2.1, 1 + r3.1, r3.2.1, r3.2.2)) ?_ ?_ N 0 _ (Nat.zero_le _) ⟨_, rfl⟩ (by omega)
  · rintro go2 _ ⟨is, rfl⟩
    dsimp only
    refine Def.dif (fun e => absurd e (by omega)) (fun _ => ?_)
    refine Def.bif (fun _ => ?_) (fun _ => ?_)
    · refine Def.bind (push_def N out _ _ (by omega) (by omega)) fun r4 hr4 => ?_
      exact Def.ite (by unfold fits; omega) (hgo _ ⟨(show 0 ≤ n - 1 by omega), (show n - 1 ≤ 5 by omega), (show (r4.length : Int) ≤ 5 - (n - 1) by omega), h7.le (show _ ≤ j + 11 - 2 * (n - 1).toNat by omega)⟩ (show (n - 1).toNat < n.toNat by omega))
    · exact Def.ite (by unfold fits; omega) (hgo _ ⟨(show 0 ≤ n - 1 by omega), (show n - 1 ≤ 5 by omega), (show (out.length : Int) ≤ 5 - (n - 1) by omega), h7.le (show _ ≤ j + 11 - 2 * (n - 1).toNat by omega)⟩ (show (n - 1).toNat < n.toNat by omega))
  · rintro go2 m _ hm ⟨is, rfl⟩ hgo2
    dsimp only
    refine Def.dif (fun e => ?_) (fun e => absurd (by omega) e)
    refine Def.bif (fun _ => ?_) (fun _ => ?_)
    · exact Def.ite (by unfold fits; omega) (hgo2 _ ⟨_, by rw [cast_succ']⟩)
    · refine Def.idx (by omega) e fun x hx _ => ?_
      exact Def.ite (by unfold fits; omega) (hgo2 _ ⟨_, by rw [cast_succ']⟩)
end Go.Proofs.Ythodbhjnfeahhaa

/- Plain laws: items that are ok, in another order. -/
set_option linter.unusedVariables false
set_option linter.unusedSimpArgs false
namespace Go.Proofs.Ythodbhjnfeahhaa
open Go.RowKit
theorem okItems_of (xs : List DItem2) : ∀ (l : List DItem2) (n : Nat), (∀ i (hi : i < l.length), okItem xs (n + i) l[i] = true) → okItems xs l n = true
  | [], _, _ => rfl
  | x :: l, n, h => by
    simp only [okItems, Bool.and_eq_true]
    refine ⟨h 0 (by simp), okItems_of xs l (n + 1) fun i hi => ?_⟩
    have := h (i + 1) (by simpa using hi)
    rw [show n + 1 + i = n + (i + 1) by omega]
    exact this
def goodItem (x : DItem2) : Prop := x.1 ≠ [] ∧ okFrom x.2 x.2 0 = true
theorem okItems_iff (xs : List DItem2) : okItems xs xs 0 = true ↔ (∀ x, x ∈ xs → goodItem x) ∧ (xs.map (·.1)).Nodup := by
  constructor
  · intro h
    refine ⟨fun x hx => ?_, ?_⟩
    · obtain ⟨i, hi, rfl⟩ := List.mem_iff_getElem.1 hx
      have := okItems_at xs xs 0 i hi h
      simp only [okItem, Bool.and_eq_true] at this
      exact ⟨ok_ask h hi, this.1.2⟩
    · rw [List.nodup_iff_pairwise_ne, List.pairwise_iff_getElem]
      intro i j hi hj hij
      simp only [List.getElem_map]
      exact ok_once h (by simpa using hj) hij
  · rintro ⟨h1, h2⟩
    refine okItems_of xs xs 0 fun i hi => ?_
    have hg := h1 xs[i] (List.getElem_mem hi)
    simp only [okItem, Bool.and_eq_true, Bool.not_eq_true', Nat.zero_add]
    refine ⟨⟨by simpa using hg.1, hg.2⟩, ?_⟩
    simp only [askIn, List.any_eq_false]
    intro x hx
    obtain ⟨k, hk, rfl⟩ := List.mem_take_iff_getElem.1 hx
    rw [List.nodup_iff_pairwise_ne, List.pairwise_iff_getElem] at h2
    have := h2 k i (by simp; omega) (by simpa using hi) (by omega)
    simpa using this
theorem okItems_perm {xs ys : List DItem2} (h : xs.Perm ys) (hx : okItems xs xs 0 = true) : okItems ys ys 0 = true := by
  rw [okItems_iff] at hx ⊢
  exact ⟨fun y hy => hx.1 y (h.mem_iff.2 hy), ((h.map _).nodup_iff).1 hx.2⟩
theorem front_perm (xs : List DItem2) (n : Nat) (hn : n < xs.length) : (xs[n] :: (xs.take n ++ xs.drop (n + 1))).Perm xs := by
  have h1 : xs.take n ++ xs[n] :: xs.drop (n + 1) = xs := by
    rw [← List.drop_eq_getElem_cons hn, List.take_append_drop]
  refine (List.perm_middle (a := xs[n]) (l₁ := xs.take n) (l₂ := xs.drop (n + 1))).symm.trans ?_
  rw [h1]
theorem okCache_front {c g : Int} {xs : List DItem2} (h : okCache c g xs = true) (n : Nat) (hn : n < xs.length) : okCache c g (xs[n] :: (xs.take n ++ xs.drop (n + 1))) = true := by
  have hp := front_perm xs n hn
  have hl := hp.length_eq
  simp only [okCache, Bool.and_eq_true] at h ⊢
  rw [hl]
  exact ⟨h.1, okItems_perm hp.symm h.2⟩
theorem few_perm {M : Nat} {xs ys : List DItem2} (h : xs.Perm ys) (hx : fewHits M xs) : fewHits M ys := fun y hy => hx y (h.mem_iff.2 hy)
theorem few_le {M M' : Nat} {xs : List DItem2} (h : fewHits M xs) (hM : M ≤ M') : fewHits M' xs := fun x hx => Nat.lt_of_lt_of_le (h x hx) hM
end Go.Proofs.Ythodbhjnfeahhaa

/- Plain laws: caches that are drawn. -/
set_option linter.unusedVariables false
set_option linter.unusedSimpArgs false
namespace Go.Proofs.Ythodbhjnfeahhaa
open Go.RowKit
theorem specPut_def (N : Nat) (c g : Int) (xs : List DItem2) (ask : List UInt8) (gen : Int) (hits : List DHit2) (hx : xs.length ≤ 5) (hf : fewHits 6 xs) (hh : hits.length ≤ 5) (hN : 20 ≤ N) (hN2 : N ≤ 1000000) :
    Def (s_CachePut_m N c g xs ask gen hits) fun r => r.2.2.length ≤ 5 ∧ fewHits 6 r.2.2 := by
  have hf' : fewHits N xs := few_le hf (by omega)
  unfold s_CachePut_m
  rw [l24Ok_spec N c g xs (by omega) (by omega) hf', Option.bind_some, copy_spec N c g xs (by omega) (by omega) hf']
  refine Def.bif (fun _ => Def.ret ⟨by simp, fun x hx => by cases hx⟩) (fun e => ?_)
  have hok : okCache c g xs = true := by simpa using e
  have hc : 1 ≤ c ∧ c ≤ 5 := by simp only [okCache, Bool.and_eq_true, decide_eq_true_eq] at hok; exact hok.1.1.1
  refine Def.dif (fun _ => Def.ret ⟨hx, hf⟩) (fun _ => ?_)
  rw [l13Ok_spec N hits (by omega) (by omega), Option.bind_some]
  refine Def.bif (fun _ => Def.ret ⟨hx, hf⟩) (fun _ => ?_)
  rw [l1In_spec, Option.bind_some]
  refine Def.bif (fun _ => Def.ret ⟨hx, hf⟩) (fun _ => ?_)
  refine Def.ite (room_of (by simp only [List.length_nil]; omega) (by simp only [List.length_nil]; omega)) ?_
  rw [Option.bind_some]
  dsimp only
  refine Def.upto xs.length (fun n g' => ∃ out, out.length ≤ 5 ∧ fewHits 6 out ∧ g' = (ask, gen, (n : Int), c, g, xs, 0, 0, c, gen, out, c, g, xs)) ?_ ?_ N 0 _ (Nat.zero_le _) ⟨_, by simp, ?_, rfl⟩ (by omega)
  · rintro go _ ⟨out, h1, h2, rfl⟩
    dsimp only
    exact Def.dif (fun e => absurd e (by omega)) (fun _ => Def.ret ⟨h1, h2⟩)
  · rintro go n _ hn ⟨out, h1, h2, rfl⟩ hgo
    dsimp only
    refine Def.dif (fun e => ?_) (fun e => absurd (by omega) e)
    refine Def.dif (fun _ => ?_) (fun _ => Def.ret ⟨h1, h2⟩)
    refine Def.dif (fun hlt => ?_) (fun _ => Def.ret ⟨h1, h2⟩)
    refine Def.idx (by omega) e fun x hxm _ => ?_
    refine Def.bif (fun _ => ?_) (fun _ => ?_)
    · refine Def.idx (by omega) e fun y hym _ => ?_
      refine Def.ite (room_of (by simp only [List.length_cons, List.length_nil]; omega) (by simp only [List.length_cons, List.length_nil]; omega)) ?_
      refine Def.ite (by unfold fits; omega) (hgo _ ⟨out ++ [y], by simp only [List.length_append, List.length_cons, List.length_nil]; omega, fun z hz => ?_, by rw [cast_succ']⟩)
      rcases List.mem_append.1 hz with h | h
      · exact h2 z h
      · rw [List.mem_singleton.1 h]; exact hf y hym
    · exact Def.ite (by unfold fits; omega) (hgo _ ⟨out, h1, h2, by rw [cast_succ']⟩)
  · intro x hx'
    rw [List.mem_singleton.1 hx']
    simp only [List.nil_append]; omega
theorem cache_def (N : Nat) {b : List Int} {k : Int} {j : Nat} (h : Rdr b k j) (hj : j ≤ 1000) (hN : 20 ≤ N) (hN2 : N ≤ 1000000) : Def (s_l30Cache_m N b k) fun r => (r.2.2.1.length ≤ 6 ∧ fewHits 6 r.2.2.1) ∧ Rdr r.2.2.2.1 r.2.2.2.2 (j + 200) := by
  unfold s_l30Cache_m
  refine Def.bind (pick_def N 5 h (by omega)) fun r ⟨p0, p1, _, h1⟩ => ?_
  have p1 := p1 (by omega)
  refine Def.ite (by unfold fits; omega) ?_
  have hcn : s_CacheNew_m N (1 + r.1) = some (1 + r.1, 0) := by
    unfold s_CacheNew_m
    rw [l1In_spec, Option.bind_some, decide_eq_true (by omega), Bool.not_true, cond_false]
  rw [hcn, Option.bind_some]
  refine Def.bind (pick_def N 2 h1 (by omega)) fun r3 ⟨q0, q1, _, h3⟩ => ?_
  refine Def.bind (pick_def N 6 h3 (by omega)) fun r4 ⟨s0, s1, _, h4⟩ => ?_
  have s1 := s1 (by omega)
  refine Def.iter (fun g => 0 ≤ g.1 ∧ g.1 ≤ 5 ∧ g.2.2.2.2.2.1.length ≤ 5 ∧ fewHits 6 g.2.2.2.2.2.1 ∧ Rdr g.2.2.2.2.2.2.1 g.2.2.2.2.2.2.2 (j + 190 - 30 * g.1.toNat)) (fun g => g.1.toNat) ?_ N _ ⟨s0, (show r4.1 ≤ 5 by omega), by simp, (fun x hx => by cases hx), h4.le (show _ ≤ j + 190 - 30 * r4.1.toNat by omega)⟩ (show r4.1.toNat < N by omega)
  rintro go ⟨n, b3, b4, c, c2, c3, b5, b6⟩ ⟨g1, g2, g3, g4, g5⟩ hgo
  dsimp only at g1 g2 g3 g4 g5 ⊢
  refine Def.dif (fun e => ?_) (fun e => ?_)
  · refine Def.bind (leaf_def N g5 (by omega)) fun r5 ⟨hl, h5⟩ => ?_
    have hput : Def (s_l11Put_m N N r5.1 r5.2.1 r5.2.2.1 r5.2.2.2.1 r5.2.2.2.2.1 ([] : List DQ)) fun r => True := by
      obtain ⟨M, rfl⟩ : ∃ M, N = M + 1 := ⟨N - 1, by omega⟩
      exact put_def (M + 1) M (by omega) hN2 _ _ _ _ _ hl
    refine Def.bind hput fun r6 _ => ?_
    refine Def.bind (one_def N (by simp) h5 (by omega)) fun r7 ⟨_, h7⟩ => ?_
    refine Def.bind (hits_def N h7 (by omega) (by omega)) fun r8 ⟨e8, h8⟩ => ?_
    refine Def.bind (specPut_def N c c2 c3 r6 r7.1 r8.1 g3 g4 e8 (by omega) hN2) fun r9 ⟨e9, f9⟩ => ?_
    exact Def.ite (by unfold fits; omega) (hgo _ ⟨(show 0 ≤ n - 1 by omega), (show n - 1 ≤ 5 by omega), e9, f9, h8.le (show _ ≤ j + 190 - 30 * (n - 1).toNat by omega)⟩ (show (n - 1).toNat < n.toNat by omega))
  · refine Def.meet (fun g => (g.2.2.2.2.1.length ≤ 6 ∧ fewHits 6 g.2.2.2.2.1) ∧ Rdr g.2.2.2.2.2.1 g.2.2.2.2.2.2 (j + 200)) ?_ ?_
    · rintro ⟨b7, b8, c4, c5, c6, b9, b10⟩ ⟨⟨k1, k2⟩, k3⟩
      dsimp only at k1 k2 k3 ⊢
      rw [copy_spec N c4 c5 c6 (by omega) (by omega) (few_le k2 (by omega)), Option.bind_some]
      exact Def.ret ⟨⟨k1, k2⟩, k3⟩
    · intro J hJ
      refine Def.bind (pick_def N 14 g5 (by omega)) fun r10 ⟨_, _, _, h10⟩ => ?_
      refine Def.dif (fun _ => ?_) (fun _ => ?_)
      · refine Def.bind (one_def N (by simp) h10 (by omega)) fun r11 ⟨_, h11⟩ => ?_
        exact hJ _ ⟨⟨(show c3.length ≤ 6 by omega), g4⟩, h11.le (by omega)⟩
      · refine Def.dif (fun _ => ?_) (fun _ => ?_)
        · refine Def.ite (room_of (by simp only [List.length_cons, List.length_nil]; omega) (by simp only [List.length_cons, List.length_nil]; omega)) (hJ _ ⟨⟨?_, fun z hz => ?_⟩, h10.le (by omega)⟩)
          · simp only [List.length_append, List.length_cons, List.length_nil]; omega
          · rcases List.mem_append.1 hz with h | h
            · exact g4 z h
            · rw [List.mem_singleton.1 h]; decide
        · exact hJ _ ⟨⟨(show c3.length ≤ 6 by omega), g4⟩, h10.le (by omega)⟩
theorem drawGet_def (N : Nat) {code : List Int} (hb : Bs code) (hN : 20 ≤ N) (hN2 : N ≤ 1000000) : Def (s_DrawCacheGet_m N code) fun r => r.2.2.1.length ≤ 6 ∧ fewHits 6 r.2.2.1 := by
  have hput : ∀ q f ws a b, LeafOk q f ws a b → Def (s_l11Put_m N N q f ws a b ([] : List DQ)) fun r => True := fun q f ws a b hl => by
    obtain ⟨M, rfl⟩ : ∃ M, N = M + 1 := ⟨N - 1, by omega⟩
    exact put_def (M + 1) M (by omega) hN2 _ _ _ _ _ hl
  unfold s_DrawCacheGet_m
  refine Def.bind (open_def N hb) fun r h0 => ?_
  refine Def.bind (cache_def N h0 (by omega) hN hN2) fun r2 ⟨h2, h3⟩ => ?_
  refine Def.dif (fun e => ?_) (fun e => ?_)
  · refine Def.bind (pick_def N 3 h3 (by omega)) fun r3 ⟨_, _, _, h4⟩ => ?_
    refine Def.dif (fun _ => ?_) (fun _ => ?_)
    · refine Def.bind (pick_def N _ h4 (by omega)) fun r4 ⟨q0, q1, _, h5⟩ => ?_
      refine Def.idx q0 (q1 (by omega)) fun x _ _ => ?_
      exact Def.bind (one_def N (by simp) h5 (by omega)) fun r5 _ => Def.ret h2
    · refine Def.bind (leaf_def N h4 (by omega)) fun r6 ⟨hl, _⟩ => ?_
      exact Def.bind (hput _ _ _ _ _ hl) fun r7 _ => Def.ret h2
  · refine Def.bind (leaf_def N h3 (by omega)) fun r6 ⟨hl, _⟩ => ?_
    exact Def.bind (hput _ _ _ _ _ hl) fun r7 _ => Def.ret h2
end Go.Proofs.Ythodbhjnfeahhaa

/- The law FnCacheGet, in plain Lean. -/
set_option linter.unusedVariables false
set_option linter.unusedSimpArgs false
namespace Go.Proofs.Ythodbhjnfeahhaa
open Go.RowKit
theorem specOk_spec (N : Nat) (c g : Int) (xs : List DItem2) (h : xs.length < N) (hN : (N : Int) ≤ 9223372036854775000) (hf : fewHits N xs) : s_CacheOk_m N c g xs = some (okCache c g xs) := by
  unfold s_CacheOk_m
  rw [l24Ok_spec N c g xs h hN hf]
  rfl
theorem few_step {ask : List UInt8} {xs : List DItem2} {n : Nat} (h : n < xs.length) : others ask (xs.take (n + 1)) = others ask (xs.take n) ++ (if xs[n].1 = ask then [] else [xs[n]]) := others_take ask xs n h
theorem getAgain (M : Nat) (c g : Int) (x : DItem2) (xs : List DItem2) (h : (x :: xs).length < M + 3) (hN : M + 3 ≤ 1099511627776) (hf : fewHits (M + 3) (x :: xs)) (hok : okCache c g (x :: xs) = true) : i_CacheGet_m (M + 3) c g (x :: xs) x.1 g = some (c, g, x :: xs, x.2, true) := by
  obtain ⟨r, h1, h2⟩ := implGet_spec M c g (x :: xs) x.1 g h hN hf
  have h3 : Got c g (x :: xs) x.1 g (c, g, x :: xs, x.2, true) := by
    have := Got.got (ask := x.1) hok rfl 0 (by simp) (by simp)
    simpa using this
  rw [h1, h2.same h3]
theorem fnCacheGet_law0 (M : Nat) (code : List Int) (hb : Bs code) (hM : 20 ≤ M) (hM2 : M + 3 ≤ 1000000) : l_FnCacheGet_m (M + 3) code = some true := by
  refine Def.get ?_
  unfold l_FnCacheGet_m
  refine Def.dif (fun _ => Def.ret rfl) (fun _ => ?_)
  refine Def.bind (drawGet_def (M + 3) hb (by omega) hM2) fun r ⟨hl, hf⟩ => ?_
  obtain ⟨c, g, xs, ask, gen⟩ := r
  dsimp only at hl hf ⊢
  have hf' : fewHits (M + 3) xs := few_le hf (by omega)
  obtain ⟨r2, e1, e2, hgot⟩ := get_same M c g xs ask gen (by omega) (by omega) hf'
  have ik := cacheOk_spec M c g xs (by omega) (by omega) hf'
  have sk := specOk_spec (M + 3) c g xs (by omega) (by omega) hf'
  rw [e1, e2, ik, sk]
  simp only [Option.bind_some]
  have hbb : (r2.2.2.2.2 == r2.2.2.2.2) = true := by simp
  have hff : (okCache c g xs == okCache c g xs) = true := by simp
  have few2 : r2.2.2.1.length < M + 3 ∧ fewHits (M + 3) r2.2.2.1 ∧ r2.2.2.2.1.length < M + 3 := by
    cases hgot with
    | bad => exact ⟨by simp, (fun x hx => by cases hx), by simp⟩
    | none => exact ⟨by dsimp only; omega, hf', by simp⟩
    | got h hg n hn ha =>
      have hp := front_perm xs n hn
      exact ⟨by dsimp only; rw [hp.length_eq]; omega, few_perm hp.symm hf', hf' _ (List.getElem_mem hn)⟩
  rw [hbb, foCache_spec (M + 3) r2.1 r2.2.1 r2.2.2.1 r2.1 r2.2.1 r2.2.2.1 few2.1 (by omega) few2.2.1, foHits_spec (M + 3) r2.2.2.2.1 r2.2.2.2.1 few2.2.2 (by omega), hff]
  simp only [Option.bind_some, decide_true, Bool.not_true, cond_false, cond_true]
  refine Def.bif (fun _ => Def.ret rfl) (fun hok => ?_)
  have hok : okCache c g xs = true := by simpa using hok
  cases hgot with
  | bad h => rw [h] at hok; cases hok
  | none _ hn =>
    dsimp only
    rw [Bool.not_false, cond_true, foCache_spec (M + 3) c g xs c g xs (by omega) (by omega) hf', Option.bind_some]
    exact Def.ret (by simp)
  | got _ hg n hn ha =>
    subst hg
    dsimp only at few2 ⊢
    rw [Bool.not_true, cond_false]
    have hp := front_perm xs n hn
    have hokf := okCache_front hok n hn
    have hlen := hp.length_eq
    refine Def.upto xs.length (fun m s => s = (ask, gen, xs[n].2, others ask (xs.take m), (m : Int), c, gen, xs, c, gen, xs[n] :: (xs.take n ++ xs.drop (n + 1)))) ?_ ?_ (M + 3) 0 _ (Nat.zero_le _) rfl (by omega)
    · rintro go _ rfl
      dsimp only
      refine Def.dif (fun e => absurd e (by omega)) (fun _ => ?_)
      have hag := getAgain M c gen xs[n] (xs.take n ++ xs.drop (n + 1)) (by rw [hlen]; omega) (by omega) few2.2.1 hokf
      rw [ha] at hag
      rw [hag, Option.bind_some, cacheOk_spec M c gen _ (by rw [hlen]; omega) (by omega) few2.2.1, hokf, Option.bind_some]
      dsimp only
      rw [cond_true, cond_true, foCache_spec (M + 3) c gen _ c gen _ (by rw [hlen]; omega) (by omega) few2.2.1, Option.bind_some]
      simp only [decide_true, cond_true]
      rw [foHits_spec (M + 3) xs[n].2 xs[n].2 few2.2.2 (by omega), Option.bind_some]
      simp only [decide_true, cond_true]
      refine Def.idx (by omega) (by simp only [List.length_cons]; omega) fun x _ hx => ?_
      have hx : xs[n] = x := by simpa using hx
      subst hx
      refine Def.dif (fun _ => ?_) (fun e => absurd ha e)
      refine Def.cut (by omega) (by simp only [List.length_cons]; omega) (Int.le_refl _) ?_
      have hit := okCache_items hok
      have ho := others_at hit hn
      rw [ha] at ho
      have e3 : ((xs[n] :: (xs.take n ++ xs.drop (n + 1))).take (((xs[n] :: (xs.take n ++ xs.drop (n + 1))).length : Nat) : Int).toNat).drop ((1 : Int)).toNat = others ask (xs.take xs.length) := by
        rw [Int.toNat_natCast, List.take_length, List.take_length, ho]
        rfl
      rw [e3, List.take_length, ho]
      have hsub : fewHits (M + 3) (xs.take n ++ xs.drop (n + 1)) := fun x hx => few2.2.1 x (List.mem_cons_of_mem _ hx)
      rw [foItems_spec (M + 3) _ _ (by simp only [List.length_append, List.length_take, List.length_drop]; omega) (by omega) hsub, Option.bind_some]
      exact Def.ret (by simp)
    · rintro go m _ hm rfl hgo
      dsimp only
      refine Def.dif (fun e => ?_) (fun e => absurd (by omega) e)
      have he : idx xs (m : Int) = some xs[m] := idx_at hm
      rw [he, Option.bind_some]
      have hfew : (others ask (xs.take m)).length ≤ m := by
        refine Nat.le_trans (List.length_filter_le _ _) ?_
        simp; omega
      refine Def.bif (fun hne => ?_) (fun hne => ?_)
      · rw [Option.bind_some]
        refine Def.ite (room_of (by simp only [List.length_cons, List.length_nil]; omega) (by simp only [List.length_cons, List.length_nil]; omega)) ?_
        refine Def.ite (by unfold fits; omega) (hgo _ ?_)
        have hne : ¬ xs[m].1 = ask := by simpa using hne
        rw [cast_succ', few_step hm, if_neg hne]
      · refine Def.ite (by unfold fits; omega) (hgo _ ?_)
        have hne : xs[m].1 = ask := by simpa using hne
        rw [cast_succ', few_step hm, if_pos hne, List.append_nil]
theorem fnCacheGet_law (code : List Int) (hb : ∀ x, x ∈ code → 0 ≤ x ∧ x ≤ 255) : l_FnCacheGet_m (37 + 3) code = some true := fnCacheGet_law0 37 code hb (by omega) (by omega)
end Go.Proofs.Ythodbhjnfeahhaa

/- Plain laws: the loops of the laws' own functions over all types (eq, to, sz, mark, held), for any element. -/
set_option linter.unusedVariables false
set_option linter.unusedSimpArgs false
namespace Go.Proofs.Ythodbhjnfeahhaa
open Go.RowKit
/-! ### eq -/
abbrev eqLoop {α : Type} (E : α → α → Option Bool) (N : Nat) (a b : List α) : Option Bool :=
  (bif (!decide ((a.length : Int) = (b.length : Int))) then
    (some false)
    else
    (iter (fun (go : (List α × List α × Int) → Option Bool) (g : List α × List α × Int) =>
        match g with
        | (a2, b2, i) =>
        (bif (decide (i < (a2.length : Int))) then
          (Option.bind (idx a2 i) fun (e : α) =>
            (Option.bind (idx b2 i) fun (e2 : α) =>
              (Option.bind (E e e2) fun (r : Bool) =>
                (bif (!r) then
                  (some false)
                  else
                  (if fits (i + 1) then (go (a2, b2, (i + 1))) else none)))))
          else
          (some true))) N (a, b, 0)))
theorem eqLoop_spec {α : Type} [DecidableEq α] (E : α → α → Option Bool) (N : Nat) (a b : List α) (h : a.length < N) (hN : N ≤ 1099511627776) (hE : ∀ x, x ∈ a → ∀ y, E x y = some (decide (x = y))) : eqLoop E N a b = some (decide (a = b)) := by
  unfold eqLoop
  by_cases he : a.length = b.length
  · have he' : (a.length : Int) = (b.length : Int) := by omega
    rw [decide_eq_true he', Bool.not_true, cond_false]
    refine (iter_scan _ a.length (fun n => (a, b, (n : Int))) (fun n => some (decide (a.drop n = b.drop n))) (fun go => ?_) (fun go n hn hgo => ?_) N 0 (Nat.zero_le _) (by omega)).trans (by simp)
    · have e2 : b.drop a.length = [] := by rw [he]; simp
      simp [e2]
    · have hn' : (n : Int) < (a.length : Int) := by omega
      have hnb : n < b.length := by omega
      dsimp only
      rw [decide_eq_true hn', cond_true, idx_at hn, Option.bind_some, idx_at hnb, Option.bind_some, drop_eq_iff hn hnb, hE _ (List.getElem_mem hn), Option.bind_some]
      cases hd : decide (a[n] = b[n]) with
      | false => simp
      | true =>
        rw [Bool.not_true, cond_false, if_pos (fits_nat (n := n) (by omega)), Bool.true_and]
        simp only [cast_succ'] at hgo
        exact hgo
  · have he' : ¬ (a.length : Int) = (b.length : Int) := by omega
    rw [decide_eq_false he', Bool.not_false, cond_true]
    have : a ≠ b := fun e => he (by rw [e])
    simp [this]
/-! ### to -/
abbrev toLoop {α : Type} (T : α → Option α) (z : α) (m : Int) (N : Nat) (a : List α) : Option (List α) :=
  (if (a.length : Int) = (a.length : Int) ∧ 0 ≤ (a.length : Int) ∧ (a.length : Int) * m ≤ 140737488355328 ∧ (a.length : Int) ≤ 140737488355328 then
    (iter (fun (go : (List α × List α × Int) → Option (List α)) (g : List α × List α × Int) =>
        match g with
        | (a2, out, i) =>
        (bif (decide (i < (a2.length : Int))) then
          (Option.bind (idx a2 i) fun (e : α) =>
            (Option.bind (T e) fun (r : α) =>
              (if 0 ≤ i ∧ i < (out.length : Int) then
                (Option.bind (out[i.toNat]?) fun (e2 : α) =>
                  (if fits (i + 1) then (go (a2, (out.set i.toNat r), (i + 1))) else none))
                else none)))
          else
          (some out))) N (a, (List.replicate (a.length : Int).toNat z), 0))
    else none)
theorem take_set {α : Type} (a : List α) (z : α) (n : Nat) (hn : n < a.length) : (a.take n ++ List.replicate (a.length - n) z).set n a[n] = a.take (n + 1) ++ List.replicate (a.length - (n + 1)) z := by
  have h1 : (a.take n).length = n := by simp; omega
  rw [List.set_append, if_neg (by omega), h1, Nat.sub_self, show a.length - n = (a.length - (n + 1)) + 1 from by omega, List.replicate_succ, List.set_cons_zero, List.take_succ_eq_append_getElem hn, List.append_assoc]
  rfl
theorem toLoop_spec {α : Type} (T : α → Option α) (z : α) (m : Int) (N : Nat) (a : List α) (h : a.length < N) (hN : N ≤ 1099511627776) (hm : (a.length : Int) * m ≤ 140737488355328) (hT : ∀ x, x ∈ a → T x = some x) : toLoop T z m N a = some a := by
  unfold toLoop
  rw [if_pos ⟨rfl, by omega, hm, by omega⟩]
  refine (iter_scan _ a.length (fun n => (a, a.take n ++ List.replicate (a.length - n) z, (n : Int))) (fun n => some a) (fun go => ?_) (fun go n hn hgo => ?_) N 0 (Nat.zero_le _) (by omega))
  · dsimp only
    rw [decide_eq_false (Int.lt_irrefl _), cond_false, List.take_length, Nat.sub_self]
    simp
  · have hn' : (n : Int) < (a.length : Int) := by omega
    have hol : (a.take n ++ List.replicate (a.length - n) z).length = a.length := by simp; omega
    dsimp only
    rw [decide_eq_true hn', cond_true, idx_at hn, Option.bind_some, hT _ (List.getElem_mem hn), Option.bind_some, if_pos (by omega), Int.toNat_natCast, List.getElem?_eq_getElem (by omega), Option.bind_some, if_pos (fits_nat (n := n) (by omega)), take_set a z n hn]
    simp only [cast_succ'] at hgo
    exact hgo
/-! ### sz -/
/-- What a measure gives: less than nothing, or what is left. -/
def SzP (left : Int) (m : Option Int) (P : Prop) : Prop := Def m fun r => r = -1 ∨ (0 ≤ r ∧ r ≤ left ∧ P)
abbrev szLoop {α : Type} (Z : α → Int → Option Int) (N : Nat) (a : List α) (left : Int) : Option Int :=
  (if fits (left - (a.length : Int)) then (bif (decide ((left - (a.length : Int)) < 0)) then
      (some (-1))
      else
      (iter (fun (go : (List α × Int × Int) → Option Int) (g : List α × Int × Int) =>
          match g with
          | (a2, left2, i) =>
          (bif (decide (i < (a2.length : Int))) then
            (Option.bind (idx a2 i) fun (e : α) =>
              (Option.bind (Z e left2) fun (r : Int) =>
                (bif (decide (r < 0)) then
                  (some (-1))
                  else
                  (if fits (i + 1) then (go (a2, r, (i + 1))) else none))))
            else
            (some left2))) N (a, (left - (a.length : Int)), 0))) else none)
theorem szLoop_spec {α : Type} (Z : α → Int → Option Int) (N : Nat) (hN : 1048576 < N) (P : α → Prop) (a : List α) (left : Int) (hl : a.length ≤ BigN) (h0 : 0 ≤ left) (h1 : left ≤ 1048576) (hZ : ∀ x, x ∈ a → ∀ l, 0 ≤ l → l ≤ 1048576 → SzP l (Z x l) (P x)) :
    SzP left (szLoop Z N a left) (a.length ≤ 1048576 ∧ ∀ x, x ∈ a → P x) := by
  unfold SzP szLoop
  have hl' : (a.length : Int) ≤ 9223372036854775807 := by have : a.length ≤ 9223372036854775807 := hl; omega
  refine Def.ite (by unfold fits; omega) ?_
  refine Def.dif (fun e => Def.ret (.inl rfl)) (fun e => ?_)
  refine Def.upto a.length (fun n g => ∃ l : Int, 0 ≤ l ∧ l ≤ left ∧ (∀ x, x ∈ a.take n → P x) ∧ g = (a, l, (n : Int))) ?_ ?_ N 0 _ (Nat.zero_le _) ⟨_, by omega, by omega, by simp, rfl⟩ (by omega)
  · rintro go _ ⟨l, hl0, hl1, hP, rfl⟩
    dsimp only
    rw [decide_eq_false (Int.lt_irrefl _), cond_false]
    exact Def.ret (.inr ⟨hl0, hl1, by omega, by rwa [List.take_length] at hP⟩)
  · rintro go n _ hn ⟨l, hl0, hl1, hP, rfl⟩ hgo
    dsimp only
    rw [decide_eq_true (by omega : (n : Int) < (a.length : Int)), cond_true, idx_at hn, Option.bind_some]
    refine Def.bind (hZ _ (List.getElem_mem hn) l hl0 (by omega)) fun r hr => ?_
    refine Def.dif (fun e => Def.ret (.inl rfl)) (fun e => ?_)
    rcases hr with hr | ⟨r0, r1, hx⟩
    · omega
    refine Def.ite (fits_nat (n := n) (by omega)) ?_
    refine hgo _ ⟨r, r0, by omega, fun x hx' => ?_, by rw [cast_succ']⟩
    rw [List.take_succ_eq_append_getElem hn, List.mem_append, List.mem_singleton] at hx'
    rcases hx' with hx' | rfl
    · exact hP x hx'
    · exact hx
theorem SzP.neg {left : Int} {m : Option Int} {P Q : Prop} (h : SzP left m P) (hq : P → Q) : SzP left (Option.bind m fun r => bif decide (r < 0) then some (-1) else some r) Q := by
  refine Def.bind h fun r hr => ?_
  refine Def.dif (fun e => Def.ret (.inl rfl)) (fun e => Def.ret (.inr ?_))
  rcases hr with hr | ⟨r0, r1, hx⟩
  · omega
  · exact ⟨r0, r1, hq hx⟩
theorem SzP.then {left : Int} {m : Option Int} {f : Int → Option Int} {P Q R : Prop} (h : SzP left m P) (hf : ∀ r, 0 ≤ r → r ≤ left → SzP r (f r) Q) (hr : P → Q → R) : SzP left (Option.bind m fun r => bif decide (r < 0) then some (-1) else f r) R := by
  refine Def.bind h fun r hr' => ?_
  refine Def.dif (fun e => Def.ret (.inl rfl)) (fun e => ?_)
  rcases hr' with hr' | ⟨r0, r1, hx⟩
  · omega
  · exact (hf r r0 r1).mono fun u hu => hu.imp id fun ⟨a, b, c⟩ => ⟨a, by omega, hr hx c⟩
/-- A length taken away. -/
theorem SzP.len {left : Int} {n : Nat} {f : Option Int} {Q R : Prop} (hn : n ≤ BigN) (h0 : 0 ≤ left) (h1 : left ≤ 1048576) (hf : 0 ≤ left - n → left - n ≤ left → SzP (left - n) f Q) (hr : n ≤ 1048576 → Q → R) :
    SzP left (if fits (left - (n : Int)) then (bif decide (left - (n : Int) < 0) then some (-1) else f) else none) R := by
  have hn' : (n : Int) ≤ 9223372036854775807 := by have : n ≤ 9223372036854775807 := hn; omega
  refine Def.ite (by unfold fits; omega) ?_
  refine Def.dif (fun e => Def.ret (.inl rfl)) (fun e => ?_)
  exact (hf (by omega) (by omega)).mono fun u hu => hu.imp id fun ⟨a, b, c⟩ => ⟨a, by omega, hr (by omega) c⟩
theorem SzP.ret {left : Int} (h : 0 ≤ left) : SzP left (some left) True := Def.ret (.inr ⟨h, Int.le_refl _, True.intro⟩)
/-! ### marks -/
def mcnt {α : Type} (c : α → Nat) : List α → Nat
  | [] => 0
  | x :: xs => c x + mcnt c xs
def markL {α : Type} (M : α → Int → α) (c : α → Nat) : List α → Int → List α
  | [], _ => []
  | x :: xs, k => M x k :: markL M c xs (k + c x)
section
variable {α : Type} (M : α → Int → α) (c : α → Nat)
theorem mcnt_take : ∀ (xs : List α) (n : Nat) (h : n < xs.length), mcnt c (xs.take (n + 1)) = mcnt c (xs.take n) + c xs[n]
  | x :: xs, 0, _ => by simp [mcnt]
  | x :: xs, n + 1, h => by
    simp only [List.take_succ_cons, mcnt, List.getElem_cons_succ]
    rw [mcnt_take xs n (by simpa using h)]; omega
theorem mcnt_take_le : ∀ (xs : List α) (n : Nat), mcnt c (xs.take n) ≤ mcnt c xs
  | [], n => by simp [mcnt]
  | x :: xs, 0 => by simp [mcnt]
  | x :: xs, n + 1 => by simp only [List.take_succ_cons, mcnt]; have := mcnt_take_le xs n; omega
theorem mcnt_le (G : Nat) : ∀ (xs : List α), (∀ x, x ∈ xs → c x ≤ G) → mcnt c xs ≤ xs.length * G
  | [], _ => by simp [mcnt]
  | x :: xs, h => by
    have h1 := h x (by simp)
    have h2 := mcnt_le G xs fun y hy => h y (by simp [hy])
    simp only [mcnt, List.length_cons, Nat.add_mul, Nat.one_mul]
    omega
theorem markL_len : ∀ (xs : List α) (k : Int), (markL M c xs k).length = xs.length
  | [], _ => rfl
  | x :: xs, k => by simp [markL, markL_len xs]
theorem markL_at : ∀ (xs : List α) (k : Int) (n : Nat) (h : n < xs.length), (markL M c xs k)[n]'(by rw [markL_len]; exact h) = M xs[n] (k + mcnt c (xs.take n))
  | x :: xs, k, 0, _ => by simp [markL, mcnt]
  | x :: xs, k, n + 1, h => by
    simp only [markL, List.getElem_cons_succ, List.take_succ_cons, mcnt]
    rw [markL_at xs _ n (by simpa using h)]
    congr 1
    omega
theorem mark_set (xs : List α) (k : Int) (n : Nat) (hn : n < xs.length) : ((markL M c xs k).take n ++ xs.drop n).set n (M xs[n] (k + mcnt c (xs.take n))) = (markL M c xs k).take (n + 1) ++ xs.drop (n + 1) := by
  have hl := markL_len M c xs k
  have h1 : ((markL M c xs k).take n).length = n := by simp; omega
  rw [List.set_append, if_neg (by omega), h1, Nat.sub_self, List.drop_eq_getElem_cons hn, List.set_cons_zero, List.take_succ_eq_append_getElem (by omega), markL_at M c xs k n hn, List.append_assoc]
  rfl
theorem mark_cur (xs : List α) (k : Int) (n : Nat) (hn : n < xs.length) (h : n < ((markL M c xs k).take n ++ xs.drop n).length) : ((markL M c xs k).take n ++ xs.drop n)[n] = xs[n] := by
  have hl := markL_len M c xs k
  have h1 : ((markL M c xs k).take n).length = n := by simp; omega
  rw [List.getElem_append_right (by omega)]
  simp [h1]
theorem markLoop_spec {F : ((List α × Int × Int) → Option (Int × List α)) → (List α × Int × Int) → Option (Int × List α)} (N : Nat) (K : Int) (Pre : α → Prop)
    (hend : ∀ go a k, F go (a, k, (a.length : Int)) = some (k, a))
    (hstep : ∀ go a (n : Nat) (hn : n < a.length) (k : Int), (n : Int) ≤ 1099511627776 → Pre a[n] → 0 ≤ k → k + c a[n] ≤ K → F go (a, k, (n : Int)) = go (a.set n (M a[n] k), k + c a[n], (n : Int) + 1))
    (xs : List α) (k : Int) (hk : 0 ≤ k) (hK : k + mcnt c xs ≤ K) (h : xs.length < N) (hN : N ≤ 1099511627776) (hP : ∀ x, x ∈ xs → Pre x) : iter F N (xs, k, 0) = some (k + mcnt c xs, markL M c xs k) := by
  have hl := markL_len M c xs k
  have := iter_scan F xs.length (fun n => ((markL M c xs k).take n ++ xs.drop n, k + mcnt c (xs.take n), (n : Int))) (fun n => some (k + mcnt c xs, markL M c xs k)) (fun go => ?_) (fun go n hn hgo => ?_) N 0 (Nat.zero_le _) (by omega)
  · simpa [mcnt] using this
  · have e : (markL M c xs k).take xs.length ++ xs.drop xs.length = markL M c xs k := by rw [← hl, List.take_length, hl]; simp
    have := hend go (markL M c xs k) (k + mcnt c xs)
    rw [hl] at this
    simp only [e, List.take_length]
    exact this
  · have hcl : n < ((markL M c xs k).take n ++ xs.drop n).length := by simp; omega
    have e := mark_cur M c xs k n hn hcl
    have hc := mcnt_take c xs n hn
    have hle := mcnt_take_le c xs (n + 1)
    have := hstep go ((markL M c xs k).take n ++ xs.drop n) n hcl (k + mcnt c (xs.take n)) (by omega) (by rw [e]; exact hP _ (List.getElem_mem hn)) (by omega) (by rw [e]; omega)
    refine this.trans ?_
    rw [e, mark_set M c xs k n hn, show k + (mcnt c (xs.take n) : Int) + (c xs[n] : Int) = k + (mcnt c (xs.take (n + 1)) : Int) from by omega]
    simp only [cast_succ'] at hgo
    exact hgo
theorem heldLoop_spec {F : ((List α × Int × Int) → Option Int) → (List α × Int × Int) → Option Int} (N : Nat) (K : Int) (Pre : α → Prop)
    (hend : ∀ go a k, F go (a, k, (a.length : Int)) = some k)
    (hstep : ∀ go a (n : Nat) (hn : n < a.length) (k : Int) (x : α), (n : Int) ≤ 1099511627776 → a[n] = M x k → Pre x → 0 ≤ k → k + c x ≤ K → F go (a, k, (n : Int)) = go (a, k + c x, (n : Int) + 1))
    (xs : List α) (k : Int) (hk : 0 ≤ k) (hK : k + mcnt c xs ≤ K) (h : xs.length < N) (hN : N ≤ 1099511627776) (hP : ∀ x, x ∈ xs → Pre x) : iter F N (markL M c xs k, k, 0) = some (k + mcnt c xs) := by
  have hl := markL_len M c xs k
  have := iter_scan F xs.length (fun n => (markL M c xs k, k + mcnt c (xs.take n), (n : Int))) (fun n => some (k + mcnt c xs)) (fun go => ?_) (fun go n hn hgo => ?_) N 0 (Nat.zero_le _) (by omega)
  · simpa [mcnt] using this
  · have := hend go (markL M c xs k) (k + mcnt c xs)
    rw [hl] at this
    simp only [List.take_length]
    exact this
  · have hc := mcnt_take c xs n hn
    have hle := mcnt_take_le c xs (n + 1)
    have := hstep go (markL M c xs k) n (by omega) (k + mcnt c (xs.take n)) xs[n] (by omega) (markL_at M c xs k n hn) (hP _ (List.getElem_mem hn)) (by omega) (by omega)
    refine this.trans ?_
    rw [show k + (mcnt c (xs.take n) : Int) + (c xs[n] : Int) = k + (mcnt c (xs.take (n + 1)) : Int) from by omega]
    simp only [cast_succ'] at hgo
    exact hgo
end
end Go.Proofs.Ythodbhjnfeahhaa

/- Plain laws: the laws' own functions over hits, items and caches; texts of marks. -/
set_option linter.unusedVariables false
set_option linter.unusedSimpArgs false
namespace Go.Proofs.Ythodbhjnfeahhaa
open Go.RowKit
/-! ### the mark of a text -/
theorem markText_loop {F : ((Int × List UInt8) → Option (List UInt8)) → (Int × List UInt8) → Option (List UInt8)} (hF : F = fun go g => match g with
        | (k2, out) =>
        (bif (decide ((0 : Int) < k2)) then
          (if 10 ≠ 0 then
            (if fits (48 + (k2.tmod 10)) then (if (bytesOf ([(IntKind.u8.wrap (48 + (k2.tmod 10)))] : List Int)).length + out.length ≤ 9223372036854775807 then
                (if 10 ≠ 0 then
                  (if fits (k2.tdiv 10) then (go ((k2.tdiv 10), ((bytesOf ([(IntKind.u8.wrap (48 + (k2.tmod 10)))] : List Int)) ++ out))) else none)
                  else none)
                else none) else none)
            else none)
          else
          (if ([109] : List UInt8).length + out.length ≤ 9223372036854775807 then
            (some (([109] : List UInt8) ++ out))
            else none))) : ∀ (j N : Nat) (k : Int) (out : List UInt8), 0 ≤ k → k ≤ 9223372036854775807 → k < (10 : Int) ^ j → j < N → out.length + j ≤ 1000 → Def (iter F N (k, out)) fun _ => True
  | _, 0, _, _, _, _, _, h, _ => absurd h (Nat.not_lt_zero _)
  | 0, N + 1, k, out, h0, hk, h1, h2, h3 => by
    show Def (F (iter F N) (k, out)) _
    subst hF
    dsimp only
    rw [decide_eq_false (by simp at h1; omega), cond_false]
    exact Def.ite (by simp only [List.length_cons, List.length_nil]; omega) (Def.ret True.intro)
  | j + 1, N + 1, k, out, h0, hk, h1, h2, h3 => by
    show Def (F (iter F N) (k, out)) _
    have ih := fun out' => markText_loop hF j N (k.tdiv 10) out'
    subst hF
    dsimp only
    have hp : (10 : Int) ^ (j + 1) = 10 * (10 : Int) ^ j := by rw [Int.pow_succ, Int.mul_comm]
    have hd : k.tdiv 10 = k / 10 := Int.tdiv_eq_ediv_of_nonneg h0
    have hm : k.tmod 10 = k % 10 := Int.tmod_eq_emod_of_nonneg h0
    refine Def.dif (fun e => ?_) (fun e => Def.ite (by simp only [List.length_cons, List.length_nil]; omega) (Def.ret True.intro))
    have hb : (bytesOf ([(IntKind.u8.wrap (48 + (k.tmod 10)))] : List Int)).length = 1 := by simp [bytesOf]
    refine Def.ite (by decide) (Def.ite (by unfold fits; omega) (Def.ite (by rw [hb]; omega) (Def.ite (by decide) (Def.ite ?_ ?_))))
    · rw [hd]; unfold fits; omega
    · refine ih _ (by omega) (by omega) (by omega) (by omega) ?_
      rw [List.length_append, hb]; omega
def mT (N : Nat) (k : Int) : List UInt8 := (l_markText_m N k).getD []
theorem markText_spec (N : Nat) (k : Int) (h0 : 0 ≤ k) (h1 : k ≤ 1000000000000000000) (hN : 30 ≤ N) : l_markText_m N k = some (mT N k) := by
  have : Def (l_markText_m N k) fun _ => True := by
    unfold l_markText_m
    refine Def.dif (fun e => Def.ret True.intro) (fun e => ?_)
    exact markText_loop rfl 19 N k [] h0 (by omega) (by omega) (by omega) (by simp)
  obtain ⟨r, h, _⟩ := this
  unfold mT
  rw [h]; rfl
/-! ### hits -/
abbrev THit : Tp := .pair (.int .i64) (.int .i64)
abbrev TItem : Tp := .pair .str (.sl THit)
abbrev TCache : Tp := .pair (.int .i64) (.pair (.int .i64) (.sl TItem))
abbrev Sm : Nat := 1048576
theorem eqHitS_spec (N : Nat) (a b : List DHit2) (h : a.length < N) (hN : N ≤ 1099511627776) : l_eqHitS_m N a b = some (decide (a = b)) :=
  eqLoop_spec (fun (e e2 : DHit2) => l_eqHit_m N e.1 e.2 e2.1 e2.2) N a b h hN fun x _ y => by
    obtain ⟨x1, x2⟩ := x
    obtain ⟨y1, y2⟩ := y
    unfold l_eqHit_m
    by_cases h1 : x1 = y1 <;> by_cases h2 : x2 = y2 <;> simp [h1, h2]
theorem toHitS_spec (N : Nat) (a : List DHit2) (h : a.length ≤ Sm) (hM : Sm < N) (hN : N ≤ 1099511627776) : l_toHitS_m N a = some a :=
  toLoop_spec (fun (e : DHit2) => l_toHit_m N e.1 e.2) (0, 0) 16 N a (by omega) hN (by have : a.length ≤ 1048576 := h; omega) fun x _ => rfl
theorem szHitS_spec (N : Nat) (a : List DHit2) (left : Int) (h0 : 0 ≤ left) (h1 : left ≤ 1048576) (ha : okD BigN (.sl THit) a) : SzP left (l_szHitS_m N a left) (okD Sm (.sl THit) a) :=
  SzP.len ha.1 h0 h1 (fun a b => SzP.ret a) fun h _ => ⟨h, ha.2⟩
def mHit (x : DHit2) (k : Int) : DHit2 := (k, k + 1)
def cHit (_ : DHit2) : Nat := 2
theorem markHitS_spec (N : Nat) (a : List DHit2) (k : Int) (hk : 0 ≤ k) (hK : k + mcnt cHit a ≤ 1000000000000000000) (h : a.length < N) (hN : N ≤ 1099511627776) : l_markHitS_m N a k = some (k + mcnt cHit a, markL mHit cHit a k) := by
  unfold l_markHitS_m
  refine markLoop_spec mHit cHit N 1000000000000000000 (fun _ => True) (fun go a k => ?_) (fun go a n hn k hn0 _ hk hK => ?_) a k hk hK h hN (fun _ _ => True.intro)
  · dsimp only
    rw [decide_eq_false (Int.lt_irrefl _), cond_false]
  · dsimp only
    have hK' : k + 2 ≤ 1000000000000000000 := hK
    rw [decide_eq_true (by omega : (n : Int) < (a.length : Int)), cond_true, if_pos (by omega), Int.toNat_natCast, List.getElem?_eq_getElem hn, Option.bind_some, if_pos (by unfold fits; omega), if_pos (by rw [List.length_set]; omega), List.getElem?_eq_getElem (by rw [List.length_set]; exact hn), Option.bind_some,
      if_pos (by unfold fits; omega), if_pos (fits_nat (n := n) (by omega)), List.set_set, List.getElem_set_self]
    show go _ = go (_, k + 2, _)
    rw [show k + 1 + 1 = k + 2 from by omega]
    rfl
theorem heldHitS_spec (N : Nat) (a : List DHit2) (k : Int) (hk : 0 ≤ k) (hK : k + mcnt cHit a ≤ 1000000000000000000) (h : a.length < N) (hN : N ≤ 1099511627776) : l_heldHitS_m N (markL mHit cHit a k) k = some (k + mcnt cHit a) := by
  unfold l_heldHitS_m
  refine heldLoop_spec mHit cHit N 1000000000000000000 (fun _ => True) (fun go a k => ?_) (fun go a n hn k x hn0 hx _ hk hK => ?_) a k hk hK h hN (fun _ _ => True.intro)
  · dsimp only
    rw [decide_eq_false (Int.lt_irrefl _), cond_false]
  · dsimp only
    have hK' : k + 2 ≤ 1000000000000000000 := hK
    have e1 : a[n].1 = k := by rw [hx]; rfl
    have e2 : a[n].2 = k + 1 := by rw [hx]; rfl
    rw [decide_eq_true (by omega : (n : Int) < (a.length : Int)), cond_true, idx_at hn, Option.bind_some, e1, decide_eq_true rfl, Bool.not_true, cond_false, if_pos (by unfold fits; omega), Option.bind_some, e2, decide_eq_true rfl, Bool.not_true, cond_false, if_pos (by unfold fits; omega), if_pos (fits_nat (n := n) (by omega))]
    show go _ = go (_, k + 2, _)
    rw [show k + 1 + 1 = k + 2 from by omega]
/-! ### items -/
theorem eqItem_spec (N : Nat) (x y : DItem2) (h : x.2.length < N) (hN : N ≤ 1099511627776) : l_eqItem_m N x.1 x.2 y.1 y.2 = some (decide (x = y)) := by
  obtain ⟨x1, x2⟩ := x
  obtain ⟨y1, y2⟩ := y
  unfold l_eqItem_m
  rw [eqHitS_spec N x2 y2 h hN, Option.bind_some]
  by_cases h1 : x1 = y1 <;> by_cases h2 : x2 = y2 <;> simp [h1, h2]
theorem eqItemS_spec (N : Nat) (a b : List DItem2) (h : a.length < N) (hf : fewHits N a) (hN : N ≤ 1099511627776) : l_eqItemS_m N a b = some (decide (a = b)) :=
  eqLoop_spec (fun (e e2 : DItem2) => l_eqItem_m N e.1 e.2 e2.1 e2.2) N a b h hN fun x hx y => eqItem_spec N x y (hf x hx) hN
theorem toItemS_spec (N : Nat) (a : List DItem2) (h : okD Sm (.sl TItem) a) (hM : Sm < N) (hN : N ≤ 1099511627776) : l_toItemS_m N a = some a :=
  toLoop_spec (fun (e : DItem2) => l_toItem_m N e.1 e.2) (([] : List UInt8), ([] : List DHit2)) 40 N a (Nat.lt_of_le_of_lt h.1 hM) hN (by have : List.length a ≤ 1048576 := h.1; omega) fun x hx => by
    unfold l_toItem_m
    rw [toHitS_spec N x.2 (h.2 x hx).2.1 hM hN, Option.bind_some]
theorem szItemS_spec (N : Nat) (hN : Sm < N) (a : List DItem2) (left : Int) (h0 : 0 ≤ left) (h1 : left ≤ 1048576) (ha : okD BigN (.sl TItem) a) : SzP left (l_szItemS_m N a left) (okD Sm (.sl TItem) a) :=
  szLoop_spec (fun (e : DItem2) l => l_szItem_m N e.1 e.2 l) N hN (okD Sm TItem) a left ha.1 h0 h1 fun x hx l hl0 hl1 => by
    have o := ha.2 x hx
    unfold l_szItem_m
    exact SzP.len (Q := okD Sm (.sl THit) x.2) o.1 hl0 hl1 (fun r0 r1 => SzP.neg (szHitS_spec N x.2 _ r0 (by omega) o.2) id) fun h q => ⟨h, q⟩
def cItem (x : DItem2) : Nat := 1 + mcnt cHit x.2
def mItem (N : Nat) (x : DItem2) (k : Int) : DItem2 := (mT N k, markL mHit cHit x.2 (k + 1))
theorem markItemS_spec (N : Nat) (a : List DItem2) (k : Int) (hk : 0 ≤ k) (hK : k + mcnt cItem a ≤ 1000000000000000000) (h : a.length < N) (hf : fewHits N a) (h30 : 30 ≤ N) (hN : N ≤ 1099511627776) : l_markItemS_m N a k = some (k + mcnt cItem a, markL (mItem N) cItem a k) := by
  unfold l_markItemS_m
  refine markLoop_spec (mItem N) cItem N 1000000000000000000 (fun x => x.2.length < N) (fun go a k => ?_) (fun go a n hn k hn0 hx hk hK => ?_) a k hk hK h hN hf
  · dsimp only
    rw [decide_eq_false (Int.lt_irrefl _), cond_false]
  · dsimp only
    have hK' : k + ((1 + mcnt cHit a[n].2 : Nat) : Int) ≤ 1000000000000000000 := hK
    rw [decide_eq_true (by omega : (n : Int) < (a.length : Int)), cond_true, markText_spec N k hk (by omega) h30, Option.bind_some, if_pos (by omega), Int.toNat_natCast, List.getElem?_eq_getElem hn, Option.bind_some, if_pos (by unfold fits; omega), if_pos (by rw [List.length_set]; omega), List.getElem?_eq_getElem (by rw [List.length_set]; exact hn), Option.bind_some,
      List.getElem_set_self]
    dsimp only
    rw [markHitS_spec N a[n].2 (k + 1) (by omega) (by omega) hx hN, Option.bind_some, if_pos (fits_nat (n := n) (by omega))]
    have e : (a.set n (mT N k, a[n].2)).modify n (fun y2 => (y2.1, markL mHit cHit a[n].2 (k + 1))) = a.set n (mItem N a[n] k) := by
      rw [List.modify_eq_set, List.getElem?_set_self hn]
      simp [mItem]
    rw [e]
    show go (_, k + 1 + _, _) = go (_, k + ((1 + mcnt cHit a[n].2 : Nat) : Int), _)
    rw [show k + 1 + (mcnt cHit a[n].2 : Int) = k + ((1 + mcnt cHit a[n].2 : Nat) : Int) from by omega]
theorem heldItemS_spec (N : Nat) (a : List DItem2) (k : Int) (hk : 0 ≤ k) (hK : k + mcnt cItem a ≤ 1000000000000000000) (h : a.length < N) (hf : fewHits N a) (h30 : 30 ≤ N) (hN : N ≤ 1099511627776) : l_heldItemS_m N (markL (mItem N) cItem a k) k = some (k + mcnt cItem a) := by
  unfold l_heldItemS_m
  refine heldLoop_spec (mItem N) cItem N 1000000000000000000 (fun x => x.2.length < N) (fun go a k => ?_) (fun go a n hn k x hn0 hx hp hk hK => ?_) a k hk hK h hN hf
  · dsimp only
    rw [decide_eq_false (Int.lt_irrefl _), cond_false]
  · dsimp only
    have hK' : k + ((1 + mcnt cHit x.2 : Nat) : Int) ≤ 1000000000000000000 := hK
    have e1 : a[n].1 = mT N k := by rw [hx]; rfl
    have e2 : a[n].2 = markL mHit cHit x.2 (k + 1) := by rw [hx]; rfl
    rw [decide_eq_true (by omega : (n : Int) < (a.length : Int)), cond_true, idx_at hn, Option.bind_some, markText_spec N k hk (by omega) h30, Option.bind_some, e1, decide_eq_true rfl, Bool.not_true, cond_false, if_pos (by unfold fits; omega), Option.bind_some, e2,
      heldHitS_spec N x.2 (k + 1) (by omega) (by omega) hp hN, Option.bind_some, decide_eq_false (by omega), cond_false, if_pos (fits_nat (n := n) (by omega))]
    show go (_, k + 1 + _, _) = go (_, k + ((1 + mcnt cHit x.2 : Nat) : Int), _)
    rw [show k + 1 + (mcnt cHit x.2 : Int) = k + ((1 + mcnt cHit x.2 : Nat) : Int) from by omega]
/-! ### caches -/
theorem eqCache_spec (N : Nat) (a1 a2 : Int) (a3 : List DItem2) (b1 b2 : Int) (b3 : List DItem2) (h : a3.length < N) (hf : fewHits N a3) (hN : N ≤ 1099511627776) : l_eqCache_m N a1 a2 a3 b1 b2 b3 = some (decide ((a1, a2, a3) = (b1, b2, b3))) := by
  unfold l_eqCache_m
  rw [eqItemS_spec N a3 b3 h hf hN, Option.bind_some]
  by_cases h1 : a1 = b1 <;> by_cases h2 : a2 = b2 <;> by_cases h3 : a3 = b3 <;> simp [h1, h2, h3]
theorem toCache_spec (N : Nat) (a1 a2 : Int) (a3 : List DItem2) (h : okD Sm (.sl TItem) a3) (hM : Sm < N) (hN : N ≤ 1099511627776) : l_toCache_m N a1 a2 a3 = some (a1, a2, a3) := by
  unfold l_toCache_m
  rw [toItemS_spec N a3 h hM hN, Option.bind_some]
theorem szCache_spec (N : Nat) (hN : Sm < N) (a1 a2 : Int) (a3 : List DItem2) (left : Int) (h0 : 0 ≤ left) (h1 : left ≤ 1048576) (ha : okD BigN (.sl TItem) a3) : SzP left (l_szCache_m N a1 a2 a3 left) (okD Sm (.sl TItem) a3) :=
  SzP.neg (szItemS_spec N hN a3 left h0 h1 ha) id
theorem markCache_spec (N : Nat) (a1 a2 : Int) (a : List DItem2) (k : Int) (hk : 0 ≤ k) (hK : k + mcnt cItem a ≤ 1000000000000000000) (h : a.length < N) (hf : fewHits N a) (h30 : 30 ≤ N) (hN : N ≤ 1099511627776) : l_markCache_m N a1 a2 a k = some (k + mcnt cItem a, markL (mItem N) cItem a k) := by
  unfold l_markCache_m
  rw [markItemS_spec N a k hk hK h hf h30 hN, Option.bind_some]
theorem heldCache_spec (N : Nat) (a1 a2 : Int) (a : List DItem2) (k : Int) (hk : 0 ≤ k) (hK : k + mcnt cItem a ≤ 1000000000000000000) (h : a.length < N) (hf : fewHits N a) (h30 : 30 ≤ N) (hN : N ≤ 1099511627776) : l_heldCache_m N a1 a2 (markL (mItem N) cItem a k) k = some (k + mcnt cItem a) := by
  unfold l_heldCache_m
  rw [heldItemS_spec N a k hk hK h hf h30 hN, Option.bind_some, decide_eq_false (by omega), cond_false]
end Go.Proofs.Ythodbhjnfeahhaa

/- FnExactCacheGet, as it is computed: the law gives true. -/
set_option linter.unusedVariables false
set_option linter.unusedSimpArgs false
namespace Go.Proofs.Ythodbhjnfeahhaa
open Go.RowKit
theorem okItems_few {N : Nat} (hN : Sm < N) {a : List DItem2} (h : okD Sm (.sl TItem) a) : a.length < N ∧ fewHits N a := ⟨Nat.lt_of_le_of_lt h.1 hN, fun x hx => Nat.lt_of_le_of_lt (h.2 x hx).2.1 hN⟩
theorem cntHits_le {a : List DHit2} (h : a.length ≤ Sm) : mcnt cHit a ≤ 2097152 := by
  have := mcnt_le cHit 2 a (fun _ _ => Nat.le_refl _)
  have h' : a.length ≤ 1048576 := h
  omega
theorem cntItems_le {a : List DItem2} (h : okD Sm (.sl TItem) a) : mcnt cItem a ≤ 2199024304128 := by
  have h1 := mcnt_le cItem 2097153 a (fun x hx => by have := cntHits_le (h.2 x hx).2.1; unfold cItem; omega)
  have h2 : List.length a ≤ 1048576 := h.1
  omega
theorem Got.small {c g : Int} {xs : List DItem2} {ask : List UInt8} {gen : Int} {r : Int × Int × List DItem2 × List DHit2 × Bool} (h : Got c g xs ask gen r) (ho : okD Sm (.sl TItem) xs) : okD Sm (.sl TItem) r.2.2.1 ∧ r.2.2.2.1.length ≤ Sm := by
  cases h with
  | bad h => exact ⟨⟨by simp, fun x hx => by simp at hx⟩, by simp⟩
  | none h hn => exact ⟨ho, by simp⟩
  | got h hg n hn ha =>
    refine ⟨⟨?_, fun x hx => ?_⟩, (ho.2 _ (List.getElem_mem hn)).2.1⟩
    · have h1 : List.length xs ≤ Sm := ho.1
      show (xs[n] :: (xs.take n ++ xs.drop (n + 1))).length ≤ Sm
      simp only [List.length_cons, List.length_append, List.length_take, List.length_drop]
      omega
    · have hx' : x ∈ (xs[n] :: (xs.take n ++ xs.drop (n + 1))) := hx
      rw [List.mem_cons, List.mem_append] at hx'
      rcases hx' with rfl | hx' | hx'
      · exact ho.2 _ (List.getElem_mem hn)
      · exact ho.2 _ (List.mem_of_mem_take hx')
      · exact ho.2 _ (List.mem_of_mem_drop hx')
theorem fnExactCacheGet_gen (M : Nat) (hM : Sm < M + 3) (hN : M + 3 ≤ 1099511627776) (x0 : Int × Int × List DItem2) (ask : List UInt8) (gen : Int) (o0 : okD BigN TCache x0) : l_FnExactCacheGet_m (M + 3) x0.1 x0.2.1 x0.2.2 ask gen = some true := by
  obtain ⟨c1, c2, c3⟩ := x0
  refine Def.get ?_
  unfold l_FnExactCacheGet_m
  refine Def.dif (fun e => Def.ret rfl) (fun e => ?_)
  refine Def.bind (szCache_spec (M + 3) hM c1 c2 c3 1048576 (by omega) (by omega) o0.2.2) fun r hr => ?_
  refine Def.dif (fun e => Def.ret rfl) (fun e => ?_)
  rcases hr with hr | ⟨_, _, ho⟩
  · omega
  obtain ⟨hl, hf⟩ := okItems_few hM ho
  obtain ⟨r, hi, hs, hgot⟩ := get_same M c1 c2 c3 ask gen hl hN hf
  obtain ⟨hg3, hg4⟩ := hgot.small ho
  obtain ⟨g1, g2, g3, g4, g5⟩ := r
  dsimp only at hg3 hg4
  obtain ⟨hgl, hgf⟩ := okItems_few hM hg3
  have h30 : 30 ≤ M + 3 := Nat.le_trans (by decide) (Nat.le_of_lt hM)
  have hg4' : g4.length < M + 3 := Nat.lt_of_le_of_lt hg4 hM
  have b1 := cntItems_le ho
  have b2 := cntItems_le hg3
  have b3 := cntHits_le hg4
  have e1 := toCache_spec (M + 3) c1 c2 c3 ho hM hN
  have e4 : l_eqCache_m (M + 3) g1 g2 g3 g1 g2 g3 = some true := (eqCache_spec (M + 3) g1 g2 g3 g1 g2 g3 hgl hgf hN).trans (by rw [decide_eq_true rfl])
  have e5 : l_eqHitS_m (M + 3) g4 g4 = some true := (eqHitS_spec (M + 3) g4 g4 hg4' hN).trans (by rw [decide_eq_true rfl])
  have e6 : l_eqCache_m (M + 3) c1 c2 c3 c1 c2 c3 = some true := (eqCache_spec (M + 3) c1 c2 c3 c1 c2 c3 hl hf hN).trans (by rw [decide_eq_true rfl])
  have e7 := markCache_spec (M + 3) c1 c2 c3 1 (by omega) (by omega) hl hf h30 hN
  have e8 := markCache_spec (M + 3) g1 g2 g3 1 (by omega) (by omega) hgl hgf h30 hN
  have e9 := markHitS_spec (M + 3) g4 (1 + mcnt cItem g3) (by omega) (by omega) hg4' hN
  have e10 := heldCache_spec (M + 3) g1 g2 g3 1 (by omega) (by omega) hgl hgf h30 hN
  have e11 := heldHitS_spec (M + 3) g4 (1 + mcnt cItem g3) (by omega) (by omega) hg4' hN
  have d1 : decide ((1 : Int) + mcnt cItem c3 < 0) = false := decide_eq_false (by omega)
  have d2 : decide ((1 : Int) + mcnt cItem g3 < 0) = false := decide_eq_false (by omega)
  have d3 : decide ((1 : Int) + mcnt cItem g3 + mcnt cHit g4 < 0) = false := decide_eq_false (by omega)
  have b5 : (!(g5 == g5)) = false := by cases g5 <;> rfl
  have d4 : (!decide ((1 : Int) + mcnt cItem g3 + mcnt cHit g4 = (1 : Int) + mcnt cItem g3 + mcnt cHit g4)) = false := by rw [decide_eq_true rfl]; rfl
  simp only [e1, hi, hs, e4, e5, e6, e7, e8, e9, e10, e11, d1, d2, d3, d4, b5, Option.bind_some, Bool.not_true, cond_false]
  exact Def.ret rfl
theorem fnExactCacheGet_law (x0 : Int × Int × List DItem2) (x1 : List UInt8) (x2 : Int) (o0 : okD BigN TCache x0) (o1 : okD BigN .str x1) (o2 : okD BigN (.int .i64) x2) : l_FnExactCacheGet_m (1048700 + 3) x0.1 x0.2.1 x0.2.2 x1 x2 = some true :=
  fnExactCacheGet_gen 1048700 (by decide) (by decide) x0 x1 x2 o0
end Go.Proofs.Ythodbhjnfeahhaa

/- Plain laws: what is put into a cache; FnExactCachePut, as it is computed. -/
set_option linter.unusedVariables false
set_option linter.unusedSimpArgs false
namespace Go.Proofs.Ythodbhjnfeahhaa
open Go.RowKit
/-- What is put is ok. -/
def putOk (ask : List UInt8) (gen : Int) (hits : List DHit2) : Bool := !decide (ask = []) && decide (0 ≤ gen ∧ gen ≤ 999999999) && okFrom hits hits 0
def restC (c g : Int) (xs : List DItem2) (ask : List UInt8) (gen : Int) : List DItem2 := if gen = g then (others ask xs).take (c - 1).toNat else []
inductive Put (c g : Int) (xs : List DItem2) (ask : List UInt8) (gen : Int) (hits : List DHit2) : Int × Int × List DItem2 → Prop
  | bad (h : okCache c g xs = false) : Put c g xs ask gen hits (0, 0, [])
  | none (h : okCache c g xs = true) (hn : putOk ask gen hits = false) : Put c g xs ask gen hits (c, g, xs)
  | put (h : okCache c g xs = true) (hp : putOk ask gen hits = true) : Put c g xs ask gen hits (c, gen, (ask, hits) :: restC c g xs ask gen)
theorem Put.same {c g : Int} {xs : List DItem2} {ask : List UInt8} {gen : Int} {hits : List DHit2} {r r' : Int × Int × List DItem2} (h : Put c g xs ask gen hits r) (h' : Put c g xs ask gen hits r') : r = r' := by
  cases h with
  | bad h1 => cases h' with
    | bad _ => rfl
    | none h2 _ => rw [h1] at h2; cases h2
    | put h2 _ => rw [h1] at h2; cases h2
  | none h1 hn => cases h' with
    | bad h2 => rw [h1] at h2; cases h2
    | none _ _ => rfl
    | put _ h3 => rw [hn] at h3; cases h3
  | put h1 hp => cases h' with
    | bad h2 => rw [h1] at h2; cases h2
    | none _ h3 => rw [hp] at h3; cases h3
    | put _ _ => rfl
theorem okCache_c {c g : Int} {xs : List DItem2} (h : okCache c g xs = true) : (1 ≤ c ∧ c ≤ 5) ∧ (0 ≤ g ∧ g ≤ 999999999) ∧ (xs.length : Int) ≤ c := by
  simp only [okCache, Bool.and_eq_true, decide_eq_true_eq] at h
  exact ⟨h.1.1.1, h.1.1.2, h.1.2⟩
theorem put_room {N : Nat} (hits : List DHit2) (h : hits.length < N) (hN : N ≤ 1099511627776) : room ([] : List (Int × Int)).length hits.length 16 := room_of (by simp only [List.length_nil]; omega) (by simp only [List.length_nil]; omega)
theorem implPut_spec (M : Nat) (c g : Int) (xs : List DItem2) (ask : List UInt8) (gen : Int) (hits : List DHit2) (h : xs.length < M + 3) (hN : M + 3 ≤ 1099511627776) (hf : fewHits (M + 3) xs) (hh : hits.length < M + 3) :
    Def (i_CachePut_m (M + 3) c g xs ask gen hits) (Put c g xs ask gen hits) := by
  unfold i_CachePut_m
  rw [cacheOk_spec M c g xs h (by omega) hf, Option.bind_some]
  refine Def.bif (fun e => Def.ret (.bad (by simpa using e))) (fun e => ?_)
  have hok : okCache c g xs = true := by simpa using e
  obtain ⟨hc, hg, hl⟩ := okCache_c hok
  have hw : ∀ a, i_Cache_without_m (M + 3) c g xs a = some (others a xs) := fun a => without_spec (M + 3) c g xs a h hN hf
  rw [hw [], others_none (okCache_items hok), within_spec, hitsOk_spec M hits hh (by omega)]
  simp only [Option.bind_some]
  refine Def.dif (fun ha => Def.ret (.none hok (by simp [putOk, ha]))) (fun ha => ?_)
  refine Def.bif (fun hg' => Def.ret (.none hok ?_)) (fun hg' => ?_)
  · have : decide (0 ≤ gen ∧ gen ≤ 999999999) = false := by rw [Bool.not_eq_true'] at hg'; exact hg'
    unfold putOk; rw [this]; simp
  refine Def.bif (fun hh' => Def.ret (.none hok ?_)) (fun hh' => ?_)
  · have : okFrom hits hits 0 = false := by simpa using hh'
    unfold putOk; rw [this]; simp
  have hp : putOk ask gen hits = true := by
    have h1 : decide (0 ≤ gen ∧ gen ≤ 999999999) = true := by simpa using hg'
    have h2 : okFrom hits hits 0 = true := by simpa using hh'
    unfold putOk; rw [h1, h2]; simp [ha]
  refine Def.ite (put_room hits hh hN) ?_
  refine Def.meet (fun g' => g' = (gen, (ask, hits) :: restC c g xs ask gen, c, g, xs, 0, 0)) (fun g' hg' => by subst hg'; exact Def.ret (.put hok hp)) fun J hJ => ?_
  rw [hw ask, Option.bind_some, List.nil_append]
  have hol : (others ask xs).length ≤ xs.length := List.length_filter_le _ _
  refine Def.dif (fun eg => ?_) (fun eg => hJ _ ?_)
  · refine Def.ite (by unfold fits; omega) ?_
    have em : (if (c - 1) < ((others ask xs).length : Int) then (c - 1) else ((others ask xs).length : Int)) = ((min (c - 1).toNat (others ask xs).length : Nat) : Int) := by
      by_cases hlt : (c - 1) < ((others ask xs).length : Int)
      · rw [if_pos hlt]; omega
      · rw [if_neg hlt]; omega
    rw [em]
    refine Def.cut (by omega) (by omega) (by omega) ?_
    have et : ((others ask xs).take (((min (c - 1).toNat (others ask xs).length : Nat) : Int)).toNat).drop ((0 : Int)).toNat = restC c g xs ask gen := by
      rw [Int.toNat_natCast, restC, if_pos eg]
      by_cases hlt : (c - 1).toNat ≤ (others ask xs).length
      · rw [Nat.min_eq_left hlt]; rfl
      · rw [Nat.min_eq_right (by omega), List.take_length, List.take_of_length_le (by omega)]; rfl
    have hr : (restC c g xs ask gen).length ≤ 5 := by
      rw [restC, if_pos eg, List.length_take]; omega
    rw [et]
    refine Def.ite (room_of (by simp only [List.length_cons, List.length_nil]; omega) (by simp only [List.length_cons, List.length_nil]; omega)) (hJ _ ?_)
    rfl
  · rw [restC, if_neg eg]
theorem specPut_spec (N : Nat) (c g : Int) (xs : List DItem2) (ask : List UInt8) (gen : Int) (hits : List DHit2) (h : xs.length < N) (hN : N ≤ 1099511627776) (hf : fewHits N xs) (hh : hits.length < N) :
    Def (s_CachePut_m N c g xs ask gen hits) (Put c g xs ask gen hits) := by
  unfold s_CachePut_m
  rw [l24Ok_spec N c g xs h (by omega) hf, Option.bind_some, copy_spec N c g xs h hN hf]
  refine Def.bif (fun e => Def.ret (.bad (by simpa using e))) (fun e => ?_)
  have hok : okCache c g xs = true := by simpa using e
  obtain ⟨hc, hg, hl⟩ := okCache_c hok
  rw [l13Ok_spec N hits hh (by omega), l1In_spec]
  simp only [Option.bind_some]
  refine Def.dif (fun ha => Def.ret (.none hok (by simp [putOk, ha]))) (fun ha => ?_)
  refine Def.bif (fun hh' => Def.ret (.none hok ?_)) (fun hh' => ?_)
  · have : okFrom hits hits 0 = false := by simpa using hh'
    unfold putOk; rw [this]; simp
  refine Def.bif (fun hg' => Def.ret (.none hok ?_)) (fun hg' => ?_)
  · have : decide (0 ≤ gen ∧ gen ≤ 999999999) = false := by rw [Bool.not_eq_true'] at hg'; exact hg'
    unfold putOk; rw [this]; simp
  have hp : putOk ask gen hits = true := by
    have h1 : decide (0 ≤ gen ∧ gen ≤ 999999999) = true := by simpa using hg'
    have h2 : okFrom hits hits 0 = true := by simpa using hh'
    unfold putOk; rw [h1, h2]; simp [ha]
  refine Def.ite (put_room hits hh hN) ?_
  rw [List.nil_append]
  have hpre : ∀ n, others ask xs = others ask (xs.take n) ++ others ask (xs.drop n) := fun n => by
    unfold others
    rw [← List.filter_append, List.take_append_drop]
  refine Def.upto xs.length (fun n g' => (gen = g → ((others ask (xs.take n)).length : Int) ≤ c - 1) ∧ (gen ≠ g → n = 0) ∧ g' = (ask, gen, (n : Int), c, g, xs, 0, 0, c, gen, (ask, hits) :: others ask (xs.take n), c, g, xs)) ?_ ?_ N 0 _ (Nat.zero_le _) ⟨fun _ => by simp [others]; omega, fun _ => rfl, rfl⟩ (by omega)
  · rintro go _ ⟨h1, h2, rfl⟩
    dsimp only
    rw [decide_eq_false (Int.lt_irrefl _), cond_false]
    have er : restC c g xs ask gen = others ask (xs.take xs.length) := by
      rw [List.take_length, restC]
      by_cases eg : gen = g
      · have := h1 eg
        rw [List.take_length] at this
        rw [if_pos eg, List.take_of_length_le (by omega)]
      · have h0 := h2 eg
        rw [if_neg eg, List.length_eq_zero_iff.1 h0]; rfl
    rw [← er]
    exact Def.ret (.put hok hp)
  · rintro go n _ hn ⟨h1, h2, rfl⟩ hgo
    dsimp only
    refine Def.dif (fun e => ?_) (fun e => absurd (by omega) e)
    refine Def.dif (fun eg => ?_) (fun eg => ?_)
    · have h1 := h1 eg
      refine Def.dif (fun hlt => ?_) (fun hlt => ?_)
      · simp only [List.length_cons] at hlt
        have he : idx xs (n : Int) = some xs[n] := idx_at hn
        have hol : (others ask (xs.take n)).length ≤ xs.length := Nat.le_trans (List.length_filter_le _ _) (by simp; omega)
        rw [he, Option.bind_some, Option.bind_some]
        refine Def.bif (fun hne => ?_) (fun hne => ?_)
        · have hne : ¬ xs[n].1 = ask := by simpa using hne
          refine Def.ite (room_of (by simp only [List.length_cons, List.length_nil]; omega) (by simp only [List.length_cons, List.length_nil]; omega)) ?_
          refine Def.ite (by unfold fits; omega) (hgo _ ⟨fun _ => ?_, fun e => absurd eg e, ?_⟩)
          · rw [few_step hn, if_neg hne, List.length_append, List.length_cons, List.length_nil]; omega
          · rw [cast_succ', few_step hn, if_neg hne]; rfl
        · have hne : xs[n].1 = ask := by simpa using hne
          refine Def.ite (by unfold fits; omega) (hgo _ ⟨fun _ => ?_, fun e => absurd eg e, ?_⟩)
          · rw [few_step hn, if_pos hne, List.append_nil]; omega
          · rw [cast_succ', few_step hn, if_pos hne, List.append_nil]
      · simp only [List.length_cons] at hlt
        have er : restC c g xs ask gen = others ask (xs.take n) := by
          rw [restC, if_pos eg, hpre n, List.take_append_of_le_length (by omega), List.take_of_length_le (by omega)]
        rw [← er]
        exact Def.ret (.put hok hp)
    · obtain rfl := h2 eg
      have er : restC c g xs ask gen = others ask (xs.take 0) := by rw [restC, if_neg eg]; rfl
      rw [← er]
      exact Def.ret (.put hok hp)
theorem put_same (M : Nat) (c g : Int) (xs : List DItem2) (ask : List UInt8) (gen : Int) (hits : List DHit2) (h : xs.length < M + 3) (hN : M + 3 ≤ 1099511627776) (hf : fewHits (M + 3) xs) (hh : hits.length < M + 3) : ∃ r, i_CachePut_m (M + 3) c g xs ask gen hits = some r ∧ s_CachePut_m (M + 3) c g xs ask gen hits = some r ∧ Put c g xs ask gen hits r := by
  obtain ⟨r, h1, h2⟩ := implPut_spec M c g xs ask gen hits h hN hf hh
  obtain ⟨r', h3, h4⟩ := specPut_spec (M + 3) c g xs ask gen hits h hN hf hh
  obtain rfl := h2.same h4
  exact ⟨r, h1, h3, h2⟩
theorem restC_mem {c g : Int} {xs : List DItem2} {ask : List UInt8} {gen : Int} {x : DItem2} (h : x ∈ restC c g xs ask gen) : gen = g ∧ x ∈ xs ∧ x.1 ≠ ask := by
  unfold restC at h
  by_cases eg : gen = g
  · rw [if_pos eg] at h
    have := List.mem_of_mem_take h
    simp only [others, List.mem_filter] at this
    exact ⟨eg, this.1, by simpa using this.2⟩
  · rw [if_neg eg] at h; cases h
theorem restC_len {c g : Int} {xs : List DItem2} {ask : List UInt8} {gen : Int} (hc : 1 ≤ c ∧ c ≤ 5) : ((restC c g xs ask gen).length : Int) ≤ c - 1 := by
  unfold restC
  by_cases eg : gen = g
  · rw [if_pos eg, List.length_take]; omega
  · rw [if_neg eg]; simp only [List.length_nil]; omega
theorem Put.small {c g : Int} {xs : List DItem2} {ask : List UInt8} {gen : Int} {hits : List DHit2} {r : Int × Int × List DItem2} (h : Put c g xs ask gen hits r) (ho : okD Sm (.sl TItem) xs) (ha : ask.length ≤ Sm) (hh : okD Sm (.sl THit) hits) : okD Sm (.sl TItem) r.2.2 := by
  cases h with
  | bad h => exact ⟨by simp, fun x hx => by simp at hx⟩
  | none h hn => exact ho
  | put h hp =>
    obtain ⟨hc, _, _⟩ := okCache_c h
    have hl := restC_len (g := g) (xs := xs) (ask := ask) (gen := gen) hc
    refine ⟨?_, fun x hx => ?_⟩
    · show ((ask, hits) :: restC c g xs ask gen).length ≤ 1048576
      simp only [List.length_cons]; omega
    · have hx' : x ∈ ((ask, hits) :: restC c g xs ask gen) := hx
      rcases List.mem_cons.1 hx' with rfl | hx'
      · exact ⟨ha, hh⟩
      · exact ho.2 _ (restC_mem hx').2.1
theorem fnExactCachePut_gen (M : Nat) (hM : Sm < M + 3) (hN : M + 3 ≤ 1099511627776) (x0 : Int × Int × List DItem2) (ask : List UInt8) (gen : Int) (hits : List DHit2) (o0 : okD BigN TCache x0) (o3 : okD BigN (.sl THit) hits) : l_FnExactCachePut_m (M + 3) x0.1 x0.2.1 x0.2.2 ask gen hits = some true := by
  obtain ⟨c1, c2, c3⟩ := x0
  refine Def.get ?_
  unfold l_FnExactCachePut_m
  refine Def.dif (fun e => Def.ret rfl) (fun hask => ?_)
  refine Def.bind (szCache_spec (M + 3) hM c1 c2 c3 1048576 (by omega) (by omega) o0.2.2) fun r hr => ?_
  refine Def.dif (fun e => Def.ret rfl) (fun e => ?_)
  rcases hr with hr | ⟨hr0, hr1, ho⟩
  · omega
  refine Def.bind (szHitS_spec (M + 3) hits r hr0 hr1 o3) fun r2 hr2 => ?_
  refine Def.dif (fun e => Def.ret rfl) (fun e => ?_)
  rcases hr2 with hr2 | ⟨_, _, hoh⟩
  · omega
  obtain ⟨hl, hf⟩ := okItems_few hM ho
  have hhl : hits.length < M + 3 := Nat.lt_of_le_of_lt hoh.1 hM
  obtain ⟨r, hi, hs, hput⟩ := put_same M c1 c2 c3 ask gen hits hl hN hf hhl
  have hg3 := hput.small ho (by have : Sm = 1048576 := rfl; omega) hoh
  obtain ⟨g1, g2, g3⟩ := r
  dsimp only at hg3
  obtain ⟨hgl, hgf⟩ := okItems_few hM hg3
  have h30 : 30 ≤ M + 3 := Nat.le_trans (by decide) (Nat.le_of_lt hM)
  have b1 := cntItems_le ho
  have b2 := cntItems_le hg3
  have b3 := cntHits_le hoh.1
  have e1 := toCache_spec (M + 3) c1 c2 c3 ho hM hN
  have e2 := toHitS_spec (M + 3) hits hoh.1 hM hN
  have e4 : l_eqCache_m (M + 3) g1 g2 g3 g1 g2 g3 = some true := (eqCache_spec (M + 3) g1 g2 g3 g1 g2 g3 hgl hgf hN).trans (by rw [decide_eq_true rfl])
  have e5 : l_eqHitS_m (M + 3) hits hits = some true := (eqHitS_spec (M + 3) hits hits hhl hN).trans (by rw [decide_eq_true rfl])
  have e6 : l_eqCache_m (M + 3) c1 c2 c3 c1 c2 c3 = some true := (eqCache_spec (M + 3) c1 c2 c3 c1 c2 c3 hl hf hN).trans (by rw [decide_eq_true rfl])
  have e7 := markCache_spec (M + 3) c1 c2 c3 1 (by omega) (by omega) hl hf h30 hN
  have e8 := markCache_spec (M + 3) g1 g2 g3 1 (by omega) (by omega) hgl hgf h30 hN
  have e9 := markHitS_spec (M + 3) hits (1 + mcnt cItem c3) (by omega) (by omega) hhl hN
  have e10 := heldCache_spec (M + 3) g1 g2 g3 1 (by omega) (by omega) hgl hgf h30 hN
  have d2 : decide ((1 : Int) + mcnt cItem g3 < 0) = false := decide_eq_false (by omega)
  have d3 : decide ((1 : Int) + mcnt cItem c3 + mcnt cHit hits < 0) = false := decide_eq_false (by omega)
  have d4 : (!decide ((1 : Int) + mcnt cItem g3 = (1 : Int) + mcnt cItem g3)) = false := by rw [decide_eq_true rfl]; rfl
  simp only [e1, e2, hi, hs, e4, e5, e6, e7, e8, e9, e10, d2, d3, d4, Option.bind_some, Bool.not_true, cond_false]
  exact Def.ret rfl
theorem fnExactCachePut_law (x0 : Int × Int × List DItem2) (x1 : List UInt8) (x2 : Int) (x3 : List DHit2) (o0 : okD BigN TCache x0) (o1 : okD BigN .str x1) (o2 : okD BigN (.int .i64) x2) (o3 : okD BigN (.sl THit) x3) : l_FnExactCachePut_m (1048700 + 3) x0.1 x0.2.1 x0.2.2 x1 x2 x3 = some true :=
  fnExactCachePut_gen 1048700 (by decide) (by decide) x0 x1 x2 x3 o0 o3
end Go.Proofs.Ythodbhjnfeahhaa

/- The law FnCachePut, in plain Lean. -/
set_option linter.unusedVariables false
set_option linter.unusedSimpArgs false
namespace Go.Proofs.Ythodbhjnfeahhaa
open Go.RowKit
theorem anyHits_def (N : Nat) {b : List Int} {k : Int} {j : Nat} (hr : Rdr b k j) (hj : j ≤ 100000) (hN : 20 ≤ N) : Def (s_l30AnyHits_m N b k) fun r => r.1.length ≤ 6 := by
  unfold s_l30AnyHits_m
  refine Def.bind (hits_def N hr hj hN) fun r ⟨h1, h2⟩ => ?_
  have hrm : room ([] : List (Int × Int)).length r.1.length 16 := room_of (by simp only [List.length_nil]; omega) (by simp only [List.length_nil]; omega)
  refine Def.dif (fun hp => ?_) (fun _ => Def.ite hrm (Def.ret (by dsimp only; rw [List.nil_append]; omega)))
  refine Def.bind (pick_def N 10 h2 (by omega)) fun r2 _ => ?_
  refine Def.dif (fun _ => ?_) (fun _ => Def.ite hrm (Def.ret (by dsimp only; rw [List.nil_append]; omega)))
  refine Def.idx (by omega) hp fun x _ _ => ?_
  refine Def.ite (room_of (by simp only [List.length_cons, List.length_nil]; omega) (by simp only [List.length_cons, List.length_nil]; omega)) (Def.ret ?_)
  simp only [List.length_append, List.length_cons, List.length_nil]; omega
theorem drawPut_def (N : Nat) {code : List Int} (hb : Bs code) (hN : 20 ≤ N) (hN2 : N ≤ 1000000) : Def (s_DrawCachePut_m N code) fun r => r.2.2.1.length ≤ 6 ∧ fewHits 6 r.2.2.1 ∧ r.2.2.2.2.2.length ≤ 6 ∧ (r.2.2.2.2.1 = r.2.1 ∨ r.2.2.2.2.1 = 7 ∨ r.2.2.2.2.1 = -1) := by
  have hput : ∀ q f ws a b, LeafOk q f ws a b → Def (s_l11Put_m N N q f ws a b ([] : List DQ)) fun r => True := fun q f ws a b hl => by
    obtain ⟨M, rfl⟩ : ∃ M, N = M + 1 := ⟨N - 1, by omega⟩
    exact put_def (M + 1) M (by omega) hN2 _ _ _ _ _ hl
  unfold s_DrawCachePut_m
  refine Def.bind (open_def N hb) fun r h0 => ?_
  refine Def.bind (cache_def N h0 (by omega) hN hN2) fun r2 ⟨h2, h3⟩ => ?_
  refine Def.bind (leaf_def N h3 (by omega)) fun r3 ⟨hl, h4⟩ => ?_
  refine Def.bind (hput _ _ _ _ _ hl) fun r4 _ => ?_
  refine Def.meet (fun g => ∃ ask x y, Rdr x y 211 ∧ g = (ask, 0, 0, r2.1, r2.2.1, r2.2.2.1, x, y)) ?_ fun J hJ => ?_
  · rintro _ ⟨ask, x, y, hxy, rfl⟩
    dsimp only
    refine Def.bind (one_def N (by simp) hxy (by omega)) fun r6 ⟨m6, h6⟩ => ?_
    refine Def.bind (anyHits_def N h6 (by omega) hN) fun r7 h7 => ?_
    refine Def.ret ⟨h2.1, h2.2, h7, ?_⟩
    show r6.1 = r2.2.1 ∨ r6.1 = 7 ∨ r6.1 = -1
    simp only [List.mem_cons, List.mem_nil_iff, or_false] at m6
    rcases m6 with m | m | m | m
    · exact .inl m
    · exact .inl m
    · exact .inr (.inl m)
    · exact .inr (.inr m)
  · refine Def.bind (pick_def N 12 h4 (by omega)) fun r5 ⟨_, _, _, h5⟩ => ?_
    refine Def.dif (fun _ => hJ _ ⟨_, _, _, h5.le (by omega), rfl⟩) (fun _ => hJ _ ⟨_, _, _, h5.le (by omega), rfl⟩)
theorem put_ok {c g : Int} {xs : List DItem2} {ask : List UInt8} {gen : Int} {hits : List DHit2} (h : okCache c g xs = true) (hp : putOk ask gen hits = true) : okCache c gen ((ask, hits) :: restC c g xs ask gen) = true := by
  obtain ⟨hc, hg, hl⟩ := okCache_c h
  have hit := (okItems_iff xs).1 (okCache_items h)
  simp only [putOk, Bool.and_eq_true, decide_eq_true_eq, Bool.not_eq_true', decide_eq_false_iff_not] at hp
  obtain ⟨⟨hp1, hp2⟩, hp3⟩ := hp
  have hlen := restC_len (g := g) (xs := xs) (ask := ask) (gen := gen) hc
  have hnd : ((restC c g xs ask gen).map (·.1)).Nodup := by
    unfold restC
    by_cases eg : gen = g
    · rw [if_pos eg]
      exact List.Sublist.nodup (List.Sublist.map _ ((List.take_sublist _ _).trans List.filter_sublist)) hit.2
    · rw [if_neg eg]; exact List.nodup_nil
  have hi : okItems ((ask, hits) :: restC c g xs ask gen) ((ask, hits) :: restC c g xs ask gen) 0 = true := by
    refine (okItems_iff _).2 ⟨fun x hx => ?_, ?_⟩
    · rcases List.mem_cons.1 hx with rfl | hx
      · exact ⟨hp1, hp3⟩
      · exact hit.1 _ (restC_mem hx).2.1
    · rw [List.map_cons, List.nodup_cons]
      refine ⟨fun hm => ?_, hnd⟩
      obtain ⟨x, hx, hxa⟩ := List.mem_map.1 hm
      exact (restC_mem hx).2.2 hxa
  simp only [okCache, Bool.and_eq_true, decide_eq_true_eq]
  exact ⟨⟨⟨hc, hp2⟩, by simp only [List.length_cons]; omega⟩, hi⟩
theorem fnCachePut_law0 (M : Nat) (code : List Int) (hb : Bs code) (hM : 20 ≤ M) (hM2 : M + 3 ≤ 1000000) : l_FnCachePut_m (M + 3) code = some true := by
  refine Def.get ?_
  unfold l_FnCachePut_m
  refine Def.dif (fun _ => Def.ret rfl) (fun _ => ?_)
  refine Def.bind (drawPut_def (M + 3) hb (by omega) hM2) fun r ⟨hl, hf, hh, hg⟩ => ?_
  obtain ⟨c, g, xs, ask, gen, hits⟩ := r
  dsimp only at hl hf hh hg ⊢
  have hf' : fewHits (M + 3) xs := few_le hf (by omega)
  obtain ⟨r, e1, e2, hput⟩ := put_same M c g xs ask gen hits (by omega) (by omega) hf' (by omega)
  rw [e1, Option.bind_some, e2, Option.bind_some]
  have few2 : r.2.2.length ≤ 6 ∧ fewHits (M + 3) r.2.2 := by
    cases hput with
    | bad => exact ⟨by simp, (fun x hx => by cases hx)⟩
    | none => exact ⟨hl, hf'⟩
    | put h hp =>
      have hlen := restC_len (g := g) (xs := xs) (ask := ask) (gen := gen) (okCache_c h).1
      have hc5 := (okCache_c h).1
      refine ⟨by simp only [List.length_cons]; omega, fun x hx => ?_⟩
      rcases List.mem_cons.1 hx with rfl | hx
      · show hits.length < M + 3
        omega
      · exact hf' _ (restC_mem hx).2.1
  have efo : l_foCache_m (M + 3) r.1 r.2.1 r.2.2 r.1 r.2.1 r.2.2 = some true := (foCache_spec (M + 3) r.1 r.2.1 r.2.2 r.1 r.2.1 r.2.2 (by omega) (by omega) few2.2).trans (by rw [decide_eq_true rfl])
  rw [efo, Option.bind_some, Bool.not_true, cond_false, cacheOk_spec M c g xs (by omega) (by omega) hf', Option.bind_some]
  refine Def.bif (fun _ => by rw [Option.bind_some, efo, Option.bind_some]; exact Def.ret rfl) (fun hok => ?_)
  have hok : okCache c g xs = true := by simpa using hok
  have hsame : putOk ask gen hits = false → l_foCache_m (M + 3) r.1 r.2.1 r.2.2 c g xs = some true := fun hn => by
    cases hput with
    | bad h => rw [h] at hok; cases hok
    | none _ _ => rw [foCache_spec (M + 3) c g xs c g xs (by omega) (by omega) hf']; simp
    | put _ hp => rw [hp] at hn; cases hn
  refine Def.dif (fun ha => ?_) (fun ha => ?_)
  · rw [hsame (by simp [putOk, ha])]; exact Def.ret rfl
  refine Def.dif (fun hg0 => ?_) (fun hg0 => ?_)
  · rw [hsame (by have : decide (0 ≤ gen ∧ gen ≤ 999999999) = false := decide_eq_false (by omega)
                  unfold putOk; rw [this]; simp)]
    exact Def.ret rfl
  rw [hitsOk_spec M hits (by omega) (by omega), Option.bind_some]
  refine Def.bif (fun hho => ?_) (fun hho => ?_)
  · have : okFrom hits hits 0 = false := by simpa using hho
    rw [hsame (by unfold putOk; rw [this]; simp)]; exact Def.ret rfl
  obtain ⟨hc5, hgr, hlc⟩ := okCache_c hok
  have hgen : 0 ≤ gen ∧ gen ≤ 999999999 := by omega
  have hp : putOk ask gen hits = true := by
    have h1 : decide (0 ≤ gen ∧ gen ≤ 999999999) = true := decide_eq_true hgen
    have h2 : okFrom hits hits 0 = true := by simpa using hho
    unfold putOk; rw [h1, h2]; simp [ha]
  obtain rfl := hput.same (.put hok hp)
  dsimp only at few2 ⊢
  have hpok := put_ok hok hp
  have hag := getAgain M c gen (ask, hits) (restC c g xs ask gen) (by omega) (by omega) few2.2 hpok
  dsimp only at hag
  rw [hag, Option.bind_some]
  refine Def.ite (by unfold fits; omega) ?_
  have hno : i_CacheGet_m (M + 3) c gen ((ask, hits) :: restC c g xs ask gen) ask (gen + 1) = some (c, gen, (ask, hits) :: restC c g xs ask gen, [], false) := by
    obtain ⟨r, h1, h2⟩ := implGet_spec M c gen ((ask, hits) :: restC c g xs ask gen) ask (gen + 1) (by omega) (by omega) few2.2
    rw [h1, h2.same (.none hpok (.inl (by omega)))]
  rw [hno, Option.bind_some]
  dsimp only
  have hlen1 : 1 ≤ ((ask, hits) :: restC c g xs ask gen).length := by simp
  refine Def.upto ((ask, hits) :: restC c g xs ask gen).length (fun m s => 1 ≤ m ∧ s = (gen, hits, hits, true, false, (m : Int), c, g, xs, c, gen, (ask, hits) :: restC c g xs ask gen)) ?_ ?_ (M + 3) 1 _ hlen1 ⟨Nat.le_refl _, rfl⟩ (by omega)
  · rintro go _ ⟨_, rfl⟩
    dsimp only
    refine Def.dif (fun e => absurd e (by omega)) (fun _ => ?_)
    rw [cacheOk_spec M c gen _ (by omega) (by omega) few2.2, hpok, Option.bind_some, cond_true, cond_true, foHits_spec (M + 3) hits hits (by omega) (by omega), Option.bind_some]
    rw [decide_eq_true rfl, cond_true, Bool.not_false, cond_true]
    exact Def.ret (decide_eq_true rfl)
  · rintro go m _ hm ⟨hm1, rfl⟩ hgo
    dsimp only
    refine Def.dif (fun e => ?_) (fun e => absurd (by omega) e)
    obtain ⟨i, rfl⟩ : ∃ i, m = i + 1 := ⟨m - 1, by omega⟩
    have hi : i < (restC c g xs ask gen).length := by simp only [List.length_cons] at hm; omega
    have he : idx ((ask, hits) :: restC c g xs ask gen) ((i + 1 : Nat) : Int) = some (restC c g xs ask gen)[i] := by rw [idx_at hm]; rfl
    obtain ⟨eg, hx, hxa⟩ := restC_mem (List.getElem_mem hi)
    obtain ⟨n, hn, hxn⟩ := List.mem_iff_getElem.1 hx
    have hget : i_CacheGet_m (M + 3) c g xs (restC c g xs ask gen)[i].1 gen = some (c, g, xs[n] :: (xs.take n ++ xs.drop (n + 1)), xs[n].2, true) := by
      obtain ⟨r, h1, h2⟩ := implGet_spec M c g xs (restC c g xs ask gen)[i].1 gen (by omega) (by omega) hf'
      rw [h1, h2.same (.got hok eg n hn (by rw [hxn]))]
    rw [he, Option.bind_some, hget, Option.bind_some]
    dsimp only
    have hsm := hf' _ (List.getElem_mem hn)
    rw [Bool.not_true, cond_false, Option.bind_some, ← hxn, foHits_spec (M + 3) xs[n].2 xs[n].2 hsm (by omega), Option.bind_some, decide_eq_true rfl, Bool.not_true, cond_false]
    exact Def.ite (by unfold fits; omega) (hgo _ ⟨by omega, by rw [cast_succ' (i + 1)]⟩)
theorem fnCachePut_law (code : List Int) (hb : ∀ x, x ∈ code → 0 ≤ x ∧ x ≤ 255) : l_FnCachePut_m (37 + 3) code = some true := fnCachePut_law0 37 code hb (by omega) (by omega)
end Go.Proofs.Ythodbhjnfeahhaa

