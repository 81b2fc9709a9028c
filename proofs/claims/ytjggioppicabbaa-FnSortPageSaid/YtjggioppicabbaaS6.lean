/- Plain laws: documents that are ok; impl.SortOf of up to twelve documents. -/
import Derived.Test.YtjggioppicabbaaS5
set_option linter.unusedVariables false
set_option linter.unusedSimpArgs false
namespace Go.Proofs.Ytjggioppicabbaa
open Go.RowKit
theorem len_all : ∀ n : Nat, n < 13 → (k_math_bits_Len_m 0 (IntKind.u64.wrap (n : Int))).isSome = true := by decide +kernel
theorem len12 (N n : Nat) (h : n < 13) : ∃ r, k_math_bits_Len_m N (IntKind.u64.wrap (n : Int)) = some r := by
  have := len_all n h
  have e : k_math_bits_Len_m N (IntKind.u64.wrap (n : Int)) = k_math_bits_Len_m 0 (IntKind.u64.wrap (n : Int)) := rfl
  rw [e]
  exact Option.isSome_iff_exists.1 this
theorem sortFunc_def (N : Nat) (hM : Sm < N) (hN : N ≤ 1099511627776) (data : List EDoc) (ks : List EKey) (hd : Docs data) (hk : okD Sm (.sl TKey) ks) (hl : data.length ≤ 12) :
    Def (k_slices_SortFunc_669_m N data ks) fun r => r.Perm data ∧ InOrd ks r := by
  have hi := insert_def N hM hN data ks hd hk (by omega)
  obtain ⟨M, rfl⟩ : ∃ M, N = M + 1 := ⟨N - 1, by have : 1048576 < N := hM; omega⟩
  obtain ⟨r, hr⟩ := len12 (M + 1) data.length (by omega)
  unfold k_slices_SortFunc_669_m
  rw [hr, Option.bind_some]
  have e2 : Def (k_slices_pdqsortCmpFunc_895_m (M + 1) (M + 1) data 0 (data.length : Int) r ks) fun r => r.Perm data ∧ InOrd ks r := by
    unfold k_slices_pdqsortCmpFunc_895_m
    refine once_def ?_
    dsimp only
    refine Def.ite (by unfold fits; omega) ?_
    refine Def.dif (fun _ => ?_) (fun e => absurd (by omega) e)
    exact Def.bind hi fun r hr => Def.ret hr
  exact Def.bind e2 fun r hr => Def.ret hr
/-! ### documents that are ok -/
def dAt (xs : List EDoc) (n : Nat) : EDoc := xs[n]?.getD (0, [], [])
theorem dAt_eq {xs : List EDoc} {n : Nat} (h : n < xs.length) : xs[n] = dAt xs n := by unfold dAt; rw [List.getElem?_eq_getElem h]; rfl
def okDc (xs : List EDoc) (n : Nat) : Bool := okDoc (dAt xs n) && (decide (n = 0) || !decide ((dAt xs n).1 ≤ (dAt xs (n - 1)).1))
def okDocs (xs : List EDoc) : Bool := allN xs.length (okDc xs) && decide ((xs.length : Int) ≤ 16)
theorem docsOk_spec (N : Nat) (hM : Sm < N) (hN : N ≤ 1099511627776) (xs : List EDoc) (ho : ∀ x, x ∈ xs → okD Sm TDoc x) (hl : xs.length ≤ 1048576) : i_DocsOk_m N xs = some (okDocs xs) := by
  have hM' : 1048576 < N := hM
  unfold i_DocsOk_m
  refine check_loop _ xs.length (fun n => (xs, xs, (xs.length : Int), (n : Int))) (okDc xs) _ (fun go => ?_) (fun go n hn => ?_) N (by omega)
  · dsimp only
    rw [decide_eq_false (Int.lt_irrefl _), cond_false]
  · dsimp only
    rw [decide_eq_true (by omega : (n : Int) < (xs.length : Int)), cond_true, idx_at hn, Option.bind_some, docOk_spec N hM hN xs[n].1 xs[n].2.1 xs[n].2.2 (ho xs[n] (List.getElem_mem hn)), Option.bind_some, if_pos (fits_nat (n := n) (by omega)), cast_succ']
    unfold okDc
    rw [← dAt_eq hn]
    cases okDoc xs[n] with
    | false => rfl
    | true =>
      rw [Bool.not_true, cond_false, Bool.true_and]
      cases n with
      | zero => rfl
      | succ n =>
        rw [decide_eq_true (by omega : (0 : Int) < ((n + 1 : Nat) : Int)), cond_true, if_pos (by unfold fits; omega), show (((n + 1 : Nat) : Int) - 1) = (n : Int) from by omega, idx_at (by omega), Option.bind_some, dAt_eq (n := n) (by omega), decide_eq_false (by omega : ¬ n + 1 = 0), Bool.false_or, Nat.add_sub_cancel]
        cases decide (xs[n + 1].1 ≤ (dAt xs n).1) <;> rfl
theorem l6Docs_spec (N : Nat) (hM : Sm < N) (hN : N ≤ 1099511627776) (xs : List EDoc) (ho : ∀ x, x ∈ xs → okD Sm TDoc x) (hl : xs.length ≤ 1048576) : s_l6Docs_m N xs = some (okDocs xs) := by
  have hM' : 1048576 < N := hM
  unfold s_l6Docs_m
  refine check_loop _ xs.length (fun n => (xs, (n : Int))) (okDc xs) _ (fun go => ?_) (fun go n hn => ?_) N (by omega)
  · dsimp only
    rw [decide_eq_false (Int.lt_irrefl _), cond_false]
  · dsimp only
    rw [decide_eq_true (by omega : (n : Int) < (xs.length : Int)), cond_true, idx_at hn, Option.bind_some, l6Ok_spec N hM hN xs[n].1 xs[n].2.1 xs[n].2.2 (ho xs[n] (List.getElem_mem hn)), Option.bind_some, Option.bind_some, if_pos (fits_nat (n := n) (by omega)), cast_succ']
    unfold okDc
    rw [← dAt_eq hn]
    cases okDoc xs[n] with
    | false => rfl
    | true =>
      rw [Bool.not_true, cond_false, Bool.true_and]
      cases n with
      | zero => rfl
      | succ n =>
        rw [decide_eq_true (by omega : (0 : Int) < ((n + 1 : Nat) : Int)), cond_true, if_pos (by unfold fits; omega), show (((n + 1 : Nat) : Int) - 1) = (n : Int) from by omega, idx_at (by omega), Option.bind_some, dAt_eq (n := n) (by omega), decide_eq_false (by omega : ¬ n + 1 = 0), Bool.false_or, Nat.add_sub_cancel]
        cases decide (xs[n + 1].1 ≤ (dAt xs n).1) <;> rfl
theorem okDocs_docs {xs : List EDoc} (ho : ∀ x, x ∈ xs → okD Sm TDoc x) (h : okDocs xs = true) : Docs xs := by
  unfold okDocs allN at h
  simp only [Bool.and_eq_true, List.all_eq_true, List.mem_range'_1, Nat.zero_add, Nat.zero_le, true_and] at h
  have key : ∀ n (hn : n < xs.length), okDoc xs[n] = true ∧ (n ≠ 0 → (dAt xs (n - 1)).1 < xs[n].1) := fun n hn => by
    have := h.1 n hn
    unfold okDc at this
    rw [← dAt_eq hn] at this
    simp only [Bool.and_eq_true, Bool.or_eq_true, decide_eq_true_eq, Bool.not_eq_true', decide_eq_false_iff_not] at this
    exact ⟨this.1, fun h0 => by rcases this.2 with h | h <;> omega⟩
  refine ⟨fun x hx => ?_, ?_⟩
  · obtain ⟨n, hn, rfl⟩ := List.mem_iff_getElem.1 hx
    exact ⟨ho _ hx, (key n hn).1⟩
  · have lt : ∀ j i (hj : j < xs.length) (hi : i < j), (xs[i]'(by omega)).1 < xs[j].1 := fun j => by
      induction j with
      | zero => intro i hj hi; omega
      | succ j ih =>
        intro i hj hi
        have h1 := (key (j + 1) hj).2 (by omega)
        rw [Nat.add_sub_cancel, ← dAt_eq (by omega)] at h1
        by_cases e : i = j
        · subst e; exact h1
        · have := ih i (by omega) (by omega)
          omega
    unfold List.Nodup
    rw [List.pairwise_map, List.pairwise_iff_getElem]
    intro i j hi hj hij e
    have := lt j i hj hij
    omega
theorem ids_spec (N : Nat) (xs : List EDoc) (h : xs.length < N) (hl : xs.length ≤ 1048576) : i_idsOf_m N xs = some (xs.map (·.1)) := by
  unfold i_idsOf_m
  refine (iter_scan _ xs.length (fun n => ((xs.take n).map (·.1), xs, (xs.length : Int), (n : Int))) (fun n => some (xs.map (·.1))) (fun go => ?_) (fun go n hn hgo => ?_) N 0 (Nat.zero_le _) (by omega))
  · dsimp only
    rw [decide_eq_false (Int.lt_irrefl _), cond_false, List.take_length]
  · simp only [cast_succ'] at hgo
    rw [List.take_succ_eq_append_getElem hn, List.map_append] at hgo
    dsimp only
    rw [decide_eq_true (by omega : (n : Int) < (xs.length : Int)), cond_true, idx_at hn, Option.bind_some, if_pos (room_of (by simp; omega) (by simp; omega)), if_pos (fits_nat (n := n) (by omega))]
    exact hgo
theorem implSort_def (N : Nat) (hM : Sm < N) (hN : N ≤ 1099511627776) (xs : List EDoc) (ks : List EKey) (ho : ∀ x, x ∈ xs → okD Sm TDoc x) (hl : xs.length ≤ 12) (hk : okD Sm (.sl TKey) ks) :
    Def (i_SortOf_m N xs ks) fun r => ((okDocs xs && okKeys ks) = false ∧ r = []) ∨ ((okDocs xs && okKeys ks) = true ∧ ∃ ys, ys.Perm xs ∧ InOrd ks ys ∧ r = ys.map (·.1)) := by
  have hM' : 1048576 < N := hM
  unfold i_SortOf_m
  rw [docsOk_spec N hM hN xs ho (by omega), keysOk_spec N hM hN ks hk]
  simp only [Option.bind_some]
  refine Def.bif (fun e => Def.ret (.inl ⟨?_, rfl⟩)) (fun e => ?_)
  · rw [Bool.not_eq_true'] at e; rw [e]; rfl
  have e1 : okDocs xs = true := by simpa using e
  refine Def.bif (fun e => Def.ret (.inl ⟨?_, rfl⟩)) (fun e => ?_)
  · rw [Bool.not_eq_true'] at e; rw [e, Bool.and_false]
  have e2 : okKeys ks = true := by simpa using e
  refine Def.ite (room_of (by simp; omega) (by simp; omega)) ?_
  rw [List.nil_append]
  refine Def.bind (sortFunc_def N hM hN xs ks (okDocs_docs ho e1) hk hl) fun r ⟨h1, h2⟩ => ?_
  have hrl := h1.length_eq
  rw [ids_spec N r (by omega) (by omega), Option.bind_some]
  exact Def.ret (.inr ⟨by rw [e1, e2]; rfl, r, h1, h2, rfl⟩)
end Go.Proofs.Ytjggioppicabbaa
