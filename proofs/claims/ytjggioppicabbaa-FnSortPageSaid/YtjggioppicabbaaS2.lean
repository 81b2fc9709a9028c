/- Plain laws: both say of the same documents that one is ahead; FnExactSortLess, as it is computed. -/
import Derived.Test.YtjggioppicabbaaS1
set_option linter.unusedVariables false
set_option linter.unusedSimpArgs false
namespace Go.Proofs.Ytjggioppicabbaa
open Go.RowKit
theorem not_less (x y : List UInt8) : (!(Op.bytesLess x y || decide (x = y))) = Op.bytesLess y x := by rw [bytesLess_or, Bool.not_not]
theorem l6Ok_spec (N : Nat) (hM : Sm < N) (hN : N ≤ 1099511627776) (d : Int) (fs : List EField) (ats : List EAttr) (ho : okD Sm TDoc (d, fs, ats)) : s_l6Ok_m N d fs ats = some (okDoc (d, fs, ats)) := by
  have hfl : List.length fs ≤ 1048576 := ho.2.1.1
  have hal : List.length ats ≤ 1048576 := ho.2.2.1
  have hM' : 1048576 < N := hM
  unfold s_l6Ok_m
  refine (check_loop _ fs.length (fun n => ((n : Int), d, fs, ats)) (okF fs) (allN ats.length (okA ats) && ((decide (1 ≤ d) && decide (d ≤ 9999)) && decide ((fs.length : Int) ≤ 3) && decide ((ats.length : Int) ≤ 3))) (fun go => ?_) (fun go n hn => ?_) N (by omega)).trans ?_
  · dsimp only
    rw [decide_eq_false (Int.lt_irrefl _), cond_false]
    refine (check_loop _ ats.length (fun n => ((n : Int), d, fs, ats)) (okA ats) ((decide (1 ≤ d) && decide (d ≤ 9999)) && decide ((fs.length : Int) ≤ 3) && decide ((ats.length : Int) ≤ 3)) (fun go => ?_) (fun go n hn => ?_) N (by omega)).trans rfl
    · dsimp only
      rw [decide_eq_false (Int.lt_irrefl _), cond_false, l1In_spec, Option.bind_some, l1In_spec, Option.bind_some, decide_eq_true (by omega : (0 : Int) ≤ (fs.length : Int)), Bool.true_and]
      cases (decide (1 ≤ d) && decide (d ≤ 9999)) <;> cases decide ((fs.length : Int) ≤ 3) <;> rfl
    · dsimp only
      have hx := ho.2.2.2 ats[n] (List.getElem_mem hn)
      have hx1 : List.length ats[n].1 ≤ 1048576 := hx.1
      rw [decide_eq_true (by omega : (n : Int) < (ats.length : Int)), cond_true, idx_at hn, Option.bind_some, l1WordOk_spec N _ (by omega) hN, Option.bind_some, Option.bind_some, l1In_spec, Option.bind_some, Option.bind_some, if_pos (fits_nat (n := n) (by omega)), cast_succ']
      unfold okA ahd
      rw [← aAt_eq hn]
      cases okW ats[n].1 with
      | false => rfl
      | true =>
        cases (decide (0 ≤ ats[n].2) && decide (ats[n].2 ≤ 999999999)) with
        | false => rfl
        | true =>
          rw [Bool.not_true, cond_false, cond_false, Bool.true_and, Bool.true_and]
          cases n with
          | zero => rfl
          | succ n =>
            rw [decide_eq_true (by omega : (0 : Int) < ((n + 1 : Nat) : Int)), cond_true, if_pos (by unfold fits; omega), show (((n + 1 : Nat) : Int) - 1) = (n : Int) from by omega, idx_at (by omega), Option.bind_some, aAt_eq (n := n) (by omega), decide_eq_false (by omega : ¬ n + 1 = 0), Bool.false_or, Nat.add_sub_cancel, bytesLess_or]
            cases Op.bytesLess (aAt ats n).1 ats[n + 1].1 <;> rfl
  · dsimp only
    have hx := ho.2.1.2 fs[n] (List.getElem_mem hn)
    have hx1 : List.length fs[n].1 ≤ 1048576 := hx.1
    have hx2 : List.length fs[n].2 ≤ 1048576 := hx.2
    rw [decide_eq_true (by omega : (n : Int) < (fs.length : Int)), cond_true, idx_at hn, Option.bind_some, l1WordOk_spec N _ (by omega) hN, Option.bind_some, l1Text_spec N _ (by omega) hN, Option.bind_some, if_pos (fits_nat (n := n) (by omega)), cast_succ']
    unfold okF ahd
    rw [← fAt_eq hn]
    cases okW fs[n].1 with
    | false => rfl
    | true =>
      cases okT fs[n].2 with
      | false => rfl
      | true =>
        rw [Bool.not_true, cond_false, cond_false, Bool.true_and, Bool.true_and]
        cases n with
        | zero => rfl
        | succ n =>
          rw [decide_eq_true (by omega : (0 : Int) < ((n + 1 : Nat) : Int)), cond_true, if_pos (by unfold fits; omega), show (((n + 1 : Nat) : Int) - 1) = (n : Int) from by omega, idx_at (by omega), Option.bind_some, fAt_eq (n := n) (by omega), decide_eq_false (by omega : ¬ n + 1 = 0), Bool.false_or, Nat.add_sub_cancel, bytesLess_or]
          cases Op.bytesLess (fAt fs n).1 fs[n + 1].1 <;> rfl
  · have e : ∀ a b c d e : Bool, (a && (b && (c && d && e))) = (c && d && e && a && b) := by decide
    unfold okDoc
    dsimp only
    exact congrArg some (e _ _ _ _ _)
/-! ### keys -/
def kAt (xs : List EKey) (n : Nat) : EKey := xs[n]?.getD ([], false)
theorem kAt_eq {xs : List EKey} {n : Nat} (h : n < xs.length) : xs[n] = kAt xs n := by unfold kAt; rw [List.getElem?_eq_getElem h]; rfl
def okKeys (ks : List EKey) : Bool := allN ks.length (fun n => okW (kAt ks n).1) && decide ((ks.length : Int) ≤ 3)
theorem keysOk_spec (N : Nat) (hM : Sm < N) (hN : N ≤ 1099511627776) (ks : List EKey) (ho : okD Sm (.sl TKey) ks) : i_keysOk_m N ks = some (okKeys ks) := by
  have hfl : List.length ks ≤ 1048576 := ho.1
  have hM' : 1048576 < N := hM
  unfold i_keysOk_m
  refine check_loop _ ks.length (fun n => (ks, ks, (ks.length : Int), (n : Int))) (fun n => okW (kAt ks n).1) _ (fun go => ?_) (fun go n hn => ?_) N (by omega)
  · dsimp only
    rw [decide_eq_false (Int.lt_irrefl _), cond_false]
  · dsimp only
    have hx := ho.2 ks[n] (List.getElem_mem hn)
    have hx1 : List.length ks[n].1 ≤ 1048576 := hx.1
    rw [decide_eq_true (by omega : (n : Int) < (ks.length : Int)), cond_true, idx_at hn, Option.bind_some, wordOk_spec N _ (by omega) hN, Option.bind_some, if_pos (fits_nat (n := n) (by omega)), cast_succ', ← kAt_eq hn]
    cases okW ks[n].1 <;> rfl
theorem l22Keys_spec (N : Nat) (hM : Sm < N) (hN : N ≤ 1099511627776) (ks : List EKey) (ho : okD Sm (.sl TKey) ks) : s_l22Keys_m N ks = some (okKeys ks) := by
  have hfl : List.length ks ≤ 1048576 := ho.1
  have hM' : 1048576 < N := hM
  unfold s_l22Keys_m
  refine check_loop _ ks.length (fun n => (ks, (n : Int))) (fun n => okW (kAt ks n).1) _ (fun go => ?_) (fun go n hn => ?_) N (by omega)
  · dsimp only
    rw [decide_eq_false (Int.lt_irrefl _), cond_false]
  · dsimp only
    have hx := ho.2 ks[n] (List.getElem_mem hn)
    have hx1 : List.length ks[n].1 ≤ 1048576 := hx.1
    rw [decide_eq_true (by omega : (n : Int) < (ks.length : Int)), cond_true, idx_at hn, Option.bind_some, l1WordOk_spec N _ (by omega) hN, Option.bind_some, if_pos (fits_nat (n := n) (by omega)), cast_succ', ← kAt_eq hn]
    cases okW ks[n].1 <;> rfl
/-! ### a number of a document -/
def numFrom (name : List UInt8) : List EAttr → Int
  | [] => -1
  | x :: xs => if x.1 = name then x.2 else numFrom name xs
theorem l6Num_spec (N : Nat) (d : Int) (fs : List EField) (ats : List EAttr) (name : List UInt8) (h : ats.length < N) (hN : N ≤ 1099511627776) : s_l6Num_m N d fs ats name = some (numFrom name ats) := by
  unfold s_l6Num_m
  refine (iter_scan _ ats.length (fun n => (name, (n : Int), d, fs, ats)) (fun n => some (numFrom name (ats.drop n))) (fun go => ?_) (fun go n hn hgo => ?_) N 0 (Nat.zero_le _) (by omega)).trans (by simp)
  · dsimp only
    rw [decide_eq_false (Int.lt_irrefl _), cond_false, List.drop_length]; rfl
  · simp only [cast_succ'] at hgo
    dsimp only
    rw [decide_eq_true (by omega : (n : Int) < (ats.length : Int)), cond_true, idx_at hn, Option.bind_some, Option.bind_some, List.drop_eq_getElem_cons hn, numFrom]
    by_cases hx : ats[n].1 = name
    · rw [decide_eq_true hx, cond_true, if_pos hx]
    · rw [decide_eq_false hx, cond_false, if_pos (fits_nat (n := n) (by omega)), if_neg hx]; exact hgo
theorem docNum_spec (N : Nat) (hM : Sm < N) (hN : N ≤ 1099511627776) (d : Int) (fs : List EField) (ats : List EAttr) (name : List UInt8) (ho : okD Sm TDoc (d, fs, ats)) (hk : okDoc (d, fs, ats) = true) : i_DocNum_m N d fs ats name = some (numFrom name ats) := by
  have hal : List.length ats ≤ 1048576 := ho.2.2.1
  have hM' : 1048576 < N := hM
  unfold i_DocNum_m
  rw [docOk_spec N hM hN d fs ats ho, Option.bind_some, hk, cond_true]
  refine (iter_scan _ ats.length (fun n => (name, ats, (ats.length : Int), (n : Int))) (fun n => some (numFrom name (ats.drop n))) (fun go => ?_) (fun go n hn hgo => ?_) N 0 (Nat.zero_le _) (by omega)).trans (by simp)
  · dsimp only
    rw [decide_eq_false (Int.lt_irrefl _), cond_false, List.drop_length]; rfl
  · simp only [cast_succ'] at hgo
    dsimp only
    rw [decide_eq_true (by omega : (n : Int) < (ats.length : Int)), cond_true, idx_at hn, Option.bind_some, List.drop_eq_getElem_cons hn, numFrom]
    by_cases hx : ats[n].1 = name
    · rw [decide_eq_true hx, cond_true, if_pos hx]
    · rw [decide_eq_false hx, cond_false, if_pos (fits_nat (n := n) (by omega)), if_neg hx]; exact hgo
theorem numFrom_ge (name : List UInt8) : ∀ (ats : List EAttr), (∀ x, x ∈ ats → 0 ≤ x.2) → -1 ≤ numFrom name ats
  | [], _ => by simp [numFrom]
  | x :: xs, h => by
    unfold numFrom
    split
    · have := h x (by simp); omega
    · exact numFrom_ge name xs fun y hy => h y (by simp [hy])
theorem okDoc_parts {x : EDoc} (h : okDoc x = true) : (1 ≤ x.1 ∧ x.1 ≤ 9999) ∧ (∀ y, y ∈ x.2.2 → 0 ≤ y.2) := by
  unfold okDoc at h
  simp only [Bool.and_eq_true, decide_eq_true_eq] at h
  refine ⟨h.1.1.1.1, fun y hy => ?_⟩
  obtain ⟨n, hn, rfl⟩ := List.mem_iff_getElem.1 hy
  have h2 := h.2
  unfold allN at h2
  rw [List.all_eq_true] at h2
  have := h2 n (by simp [List.mem_range'_1]; exact hn)
  unfold okA at this
  rw [← aAt_eq hn] at this
  simp only [Bool.and_eq_true, decide_eq_true_eq] at this
  exact this.1.2.1
/-! ### which is ahead -/
def lessK (a b : EDoc) : List EKey → Bool
  | [] => decide (a.1 < b.1)
  | k :: ks => if numFrom k.1 a.2.2 = numFrom k.1 b.2.2 then lessK a b ks else (!decide (numFrom k.1 a.2.2 = -1) && (decide (numFrom k.1 b.2.2 = -1) || !(decide (numFrom k.1 a.2.2 < numFrom k.1 b.2.2) == k.2)))
theorem docOrder_spec (N : Nat) (hM : Sm < N) (hN : N ≤ 1099511627776) (a b : EDoc) (ks : List EKey) (ha : okD Sm TDoc a) (hb : okD Sm TDoc b) (hk : okD Sm (.sl TKey) ks) (oa : okDoc a = true) (ob : okDoc b = true) :
    Def (i_docOrder_m N a.1 a.2.1 a.2.2 b.1 b.2.1 b.2.2 ks) fun r => decide (r < 0) = lessK a b ks := by
  have hkl : List.length ks ≤ 1048576 := hk.1
  have hM' : 1048576 < N := hM
  have pa := okDoc_parts oa
  have pb := okDoc_parts ob
  unfold i_docOrder_m
  refine Def.upto ks.length (fun n g => lessK a b (ks.drop n) = lessK a b ks ∧ g = (ks, (ks.length : Int), (n : Int), a.1, a.2.1, a.2.2, b.1, b.2.1, b.2.2)) ?_ ?_ N 0 _ (Nat.zero_le _) ⟨rfl, rfl⟩ (by omega)
  · rintro go _ ⟨hl, rfl⟩
    dsimp only
    rw [decide_eq_false (Int.lt_irrefl _), cond_false]
    refine Def.ite (by unfold fits; omega) (Def.ret ?_)
    rw [← hl, List.drop_length]
    unfold lessK
    by_cases h : a.1 < b.1
    · rw [decide_eq_true h, decide_eq_true (by omega)]
    · rw [decide_eq_false h, decide_eq_false (by omega)]
  · rintro go n _ hn ⟨hl, rfl⟩ hgo
    dsimp only
    rw [decide_eq_true (by omega : (n : Int) < (ks.length : Int)), cond_true, idx_at hn, Option.bind_some, docNum_spec N hM hN a.1 a.2.1 a.2.2 _ ha oa, Option.bind_some, docNum_spec N hM hN b.1 b.2.1 b.2.2 _ hb ob, Option.bind_some]
    rw [List.drop_eq_getElem_cons hn, lessK] at hl
    refine Def.dif (fun e => ?_) (fun e => ?_)
    · rw [if_pos e] at hl
      exact Def.ite (fits_nat (n := n) (by omega)) (hgo _ ⟨hl, by rw [cast_succ']⟩)
    rw [if_neg e] at hl
    rw [← hl]
    refine Def.dif (fun e1 => Def.ret ?_) (fun e1 => ?_)
    · rw [decide_eq_true e1]; rfl
    rw [decide_eq_false e1]
    refine Def.dif (fun e2 => Def.ret ?_) (fun e2 => ?_)
    · rw [decide_eq_true e2]; rfl
    rw [decide_eq_false e2]
    refine Def.bif (fun e3 => Def.ret ?_) (fun e3 => Def.ret ?_)
    · rw [e3]; rfl
    · rw [e3]; rfl
theorem l22Less_spec (N : Nat) (hM : Sm < N) (hN : N ≤ 1099511627776) (a b : EDoc) (ks : List EKey) (ha : okD Sm TDoc a) (hb : okD Sm TDoc b) (hk : okD Sm (.sl TKey) ks) (oa : okDoc a = true) (ob : okDoc b = true) :
    Def (s_l22Less_m N a.1 a.2.1 a.2.2 b.1 b.2.1 b.2.2 ks) fun r => r = lessK a b ks := by
  have hkl : List.length ks ≤ 1048576 := hk.1
  have hal : List.length a.2.2 ≤ 1048576 := ha.2.2.1
  have hbl : List.length b.2.2 ≤ 1048576 := hb.2.2.1
  have hM' : 1048576 < N := hM
  have pa := okDoc_parts oa
  have pb := okDoc_parts ob
  unfold s_l22Less_m
  refine Def.upto ks.length (fun n g => lessK a b (ks.drop n) = lessK a b ks ∧ g = (ks, (n : Int), a.1, a.2.1, a.2.2, b.1, b.2.1, b.2.2)) ?_ ?_ N 0 _ (Nat.zero_le _) ⟨rfl, rfl⟩ (by omega)
  · rintro go _ ⟨hl, rfl⟩
    dsimp only
    rw [decide_eq_false (Int.lt_irrefl _), cond_false]
    refine Def.ret ?_
    rw [← hl, List.drop_length]
    rfl
  · rintro go n _ hn ⟨hl, rfl⟩ hgo
    dsimp only
    have ga := numFrom_ge ks[n].1 a.2.2 pa.2
    have gb := numFrom_ge ks[n].1 b.2.2 pb.2
    rw [decide_eq_true (by omega : (n : Int) < (ks.length : Int)), cond_true, idx_at hn, Option.bind_some]
    rw [List.drop_eq_getElem_cons hn, lessK] at hl
    have hcmp : Def (s_l22Cmp_m N a.1 a.2.1 a.2.2 b.1 b.2.1 b.2.2 ks[n].1 ks[n].2) fun r => (r = 0 ↔ numFrom ks[n].1 a.2.2 = numFrom ks[n].1 b.2.2) ∧ (numFrom ks[n].1 a.2.2 ≠ numFrom ks[n].1 b.2.2 → decide (r < 0) = (!decide (numFrom ks[n].1 a.2.2 = -1) && (decide (numFrom ks[n].1 b.2.2 = -1) || !(decide (numFrom ks[n].1 a.2.2 < numFrom ks[n].1 b.2.2) == ks[n].2)))) := by
      unfold s_l22Cmp_m
      rw [l6Num_spec N _ _ _ _ (by omega) hN, Option.bind_some, l6Num_spec N _ _ _ _ (by omega) hN, Option.bind_some]
      generalize numFrom ks[n].1 a.2.2 = x at *
      generalize numFrom ks[n].1 b.2.2 = y at *
      generalize ks[n].2 = dn at *
      refine Def.dif (fun e => Def.ret ⟨by simp [e], fun h => absurd e h⟩) (fun e => ?_)
      refine Def.dif (fun e1 => Def.ret ⟨by simp [e], fun _ => ?_⟩) (fun e1 => ?_)
      · rw [decide_eq_true (by omega : x = -1)]; rfl
      rw [decide_eq_false (by omega : ¬ x = -1)]
      refine Def.dif (fun e2 => Def.ret ⟨by simp [e], fun _ => ?_⟩) (fun e2 => ?_)
      · rw [decide_eq_true (by omega : y = -1)]; rfl
      rw [decide_eq_false (by omega : ¬ y = -1)]
      refine Def.dif (fun e3 => ?_) (fun e3 => ?_)
      · rw [decide_eq_true e3, decide_eq_false (by omega : ¬ y < x)]
        cases dn
        · exact Def.ret ⟨by simp [e], fun _ => rfl⟩
        · exact Def.ret ⟨by simp [e], fun _ => rfl⟩
      · rw [decide_eq_false e3, decide_eq_true (by omega : y < x)]
        cases dn
        · exact Def.ret ⟨by simp [e], fun _ => rfl⟩
        · exact Def.ret ⟨by simp [e], fun _ => rfl⟩
    refine Def.bind hcmp fun r ⟨h1, h2⟩ => ?_
    refine Def.bif (fun e => Def.ret ?_) (fun e => ?_)
    · have e' : ¬ r = 0 := by simpa using e
      have e2 : numFrom ks[n].1 a.2.2 ≠ numFrom ks[n].1 b.2.2 := fun h => e' (h1.2 h)
      rw [← hl, if_neg e2, h2 e2]
    · have e' : r = 0 := by simpa using e
      rw [if_pos (h1.1 e')] at hl
      exact Def.ite (fits_nat (n := n) (by omega)) (hgo _ ⟨hl, by rw [cast_succ']⟩)
def sortLess (a b : EDoc) (ks : List EKey) : Bool := okDoc a && okDoc b && okKeys ks && lessK a b ks
theorem implLess_spec (N : Nat) (hM : Sm < N) (hN : N ≤ 1099511627776) (a b : EDoc) (ks : List EKey) (ha : okD Sm TDoc a) (hb : okD Sm TDoc b) (hk : okD Sm (.sl TKey) ks) : i_SortLess_m N a.1 a.2.1 a.2.2 b.1 b.2.1 b.2.2 ks = some (sortLess a b ks) := by
  refine Def.get ?_
  unfold i_SortLess_m sortLess
  rw [docOk_spec N hM hN a.1 a.2.1 a.2.2 ha, Option.bind_some, docOk_spec N hM hN b.1 b.2.1 b.2.2 hb, Option.bind_some, keysOk_spec N hM hN ks hk, Option.bind_some]
  cases oa : okDoc a with
  | false => exact Def.ret rfl
  | true =>
    cases ob : okDoc b with
    | false => exact Def.ret rfl
    | true =>
      cases ok : okKeys ks with
      | false => exact Def.ret rfl
      | true => exact Def.bind (docOrder_spec N hM hN a b ks ha hb hk oa ob) fun r hr => Def.ret (by rw [hr]; rfl)
theorem specLess_spec (N : Nat) (hM : Sm < N) (hN : N ≤ 1099511627776) (a b : EDoc) (ks : List EKey) (ha : okD Sm TDoc a) (hb : okD Sm TDoc b) (hk : okD Sm (.sl TKey) ks) : s_SortLess_m N a.1 a.2.1 a.2.2 b.1 b.2.1 b.2.2 ks = some (sortLess a b ks) := by
  refine Def.get ?_
  unfold s_SortLess_m sortLess
  rw [l6Ok_spec N hM hN a.1 a.2.1 a.2.2 ha, Option.bind_some, l6Ok_spec N hM hN b.1 b.2.1 b.2.2 hb, Option.bind_some, l22Keys_spec N hM hN ks hk, Option.bind_some]
  cases oa : okDoc a with
  | false => exact Def.ret rfl
  | true =>
    cases ob : okDoc b with
    | false => exact Def.ret rfl
    | true =>
      cases ok : okKeys ks with
      | false => exact Def.ret rfl
      | true => exact Def.bind (l22Less_spec N hM hN a b ks ha hb hk oa ob) fun r hr => Def.ret (by rw [hr]; rfl)
theorem fnExactSortLess_gen (N : Nat) (hM : Sm < N) (hN : N ≤ 1099511627776) (x0 x1 : EDoc) (x2 : List EKey) (o0 : okD BigN TDoc x0) (o1 : okD BigN TDoc x1) (o2 : okD BigN (.sl TKey) x2) : l_FnExactSortLess_m N x0.1 x0.2.1 x0.2.2 x1.1 x1.2.1 x1.2.2 x2 = some true := by
  refine Def.get ?_
  unfold l_FnExactSortLess_m
  refine Def.bind (szDoc_spec N hM x0 1048576 (by omega) (by omega) o0) fun r hr => ?_
  refine Def.dif (fun e => Def.ret rfl) (fun e => ?_)
  rcases hr with hr | ⟨r0, r1, h0⟩
  · omega
  refine Def.bind (szDoc_spec N hM x1 r r0 r1 o1) fun r2 hr2 => ?_
  refine Def.dif (fun e => Def.ret rfl) (fun e => ?_)
  rcases hr2 with hr2 | ⟨s0, s1, h1⟩
  · omega
  refine Def.bind (szKeyS_spec N hM x2 r2 s0 (Int.le_trans s1 r1) o2) fun r3 hr3 => ?_
  refine Def.dif (fun e => Def.ret rfl) (fun e => ?_)
  rcases hr3 with hr3 | ⟨_, _, h2⟩
  · omega
  have e0 := toDoc_spec N hM hN x0 h0
  have e1 := toDoc_spec N hM hN x1 h1
  have e2 := toKeyS_spec N hM hN x2 h2
  have e3 := implLess_spec N hM hN x0 x1 x2 h0 h1 h2
  have e4 := specLess_spec N hM hN x0 x1 x2 h0 h1 h2
  have e5 : l_eqDoc_m N x0.1 x0.2.1 x0.2.2 x0.1 x0.2.1 x0.2.2 = some true := (eqDoc_spec N hM hN x0 x0 h0).trans (by rw [decide_eq_true rfl])
  have e6 : l_eqDoc_m N x1.1 x1.2.1 x1.2.2 x1.1 x1.2.1 x1.2.2 = some true := (eqDoc_spec N hM hN x1 x1 h1).trans (by rw [decide_eq_true rfl])
  have e7 : l_eqKeyS_m N x2 x2 = some true := (eqKeyS_spec N hM hN x2 x2 h2).trans (by rw [decide_eq_true rfl])
  have b1 : (!(sortLess x0 x1 x2 == sortLess x0 x1 x2)) = false := by cases sortLess x0 x1 x2 <;> rfl
  simp only [e0, e1, e2, e3, e4, e5, e6, e7, b1, Option.bind_some, Bool.not_true, cond_false]
  exact Def.ret rfl
theorem fnExactSortLess_law (x0 x1 : EDoc) (x2 : List EKey) (o0 : okD BigN TDoc x0) (o1 : okD BigN TDoc x1) (o2 : okD BigN (.sl TKey) x2) : l_FnExactSortLess_m 1048700 x0.1 x0.2.1 x0.2.2 x1.1 x1.2.1 x1.2.2 x2 = some true :=
  fnExactSortLess_gen 1048700 (by decide) (by decide) x0 x1 x2 o0 o1 o2
end Go.Proofs.Ytjggioppicabbaa
