import Derived.Test.YtjggioppicabbaaSA
/- Plain laws: documents that are ok; impl.SortOf of up to twelve documents. -/
set_option linter.unusedVariables false
set_option linter.unusedSimpArgs false
namespace Go.Proofs.Ytjggioppicabbaa
open Go.RowKit
theorem len_all : ∀ n : Nat, n < 13 → (k_math_bits_Len_m 0 (IntKind.u64.wrap (n : Int))).isSome = true := by decide +kernel
theorem len12 (N n : Nat) (h : n < 13) : ∃ r, k_math_bits_Len_m N (IntKind.u64.wrap (n : Int)) = some r := by
  have := len_all n h
  have e : k_math_bits_Len_m N (IntKind.u64.wrap (n : Int)) = k_math_bits_Len_m 0 (IntKind.u64.wrap (n : Int)) := rfl
  rw [e]
  exact Option.isSome_iff_exists.1 this
theorem sortFunc_def (N : Nat) (hM : Sm < N) (hN : N ≤ 1099511627776) (data : List EDoc) (ks : List EKey) (hd : Docs data) (hk : okD Sm (.sl TKey) ks) (hl : data.length ≤ 12) :
    Def (k_slices_SortFunc_669_m N data ks) fun r => r.Perm data ∧ InOrd ks r := by
  have hi := insert_def N hM hN data ks hd hk (by omega)
  obtain ⟨M, rfl⟩ : ∃ M, N = M + 1 := ⟨N - 1, by have : 1048576 < N := hM; omega⟩
  obtain ⟨r, hr⟩ := len12 (M + 1) data.length (by omega)
  unfold k_slices_SortFunc_669_m
  rw [hr, Option.bind_some]
  have e2 : Def (k_slices_pdqsortCmpFunc_895_m (M + 1) (M + 1) data 0 (data.length : Int) r ks) fun r => r.Perm data ∧ InOrd ks r := by
    unfold k_slices_pdqsortCmpFunc_895_m
    refine once_def ?_
    dsimp only
    refine Def.ite (by unfold fits; omega) ?_
    refine Def.dif (fun _ => ?_) (fun e => absurd (by omega) e)
    exact Def.bind hi fun r hr => Def.ret hr
  exact Def.bind e2 fun r hr => Def.ret hr
/-! ### documents that are ok -/
def dAt (xs : List EDoc) (n : Nat) : EDoc := xs[n]?.getD (0, [], [])
theorem dAt_eq {xs : List EDoc} {n : Nat} (h : n < xs.length) : xs[n] = dAt xs n := by unfold dAt; rw [List.getElem?_eq_getElem h]; rfl
def okDc (xs : List EDoc) (n : Nat) : Bool := okDoc (dAt xs n) && (decide (n = 0) || !decide ((dAt xs n).1 ≤ (dAt xs (n - 1)).1))
def okDocs (xs : List EDoc) : Bool := allN xs.length (okDc xs) && decide ((xs.length : Int) ≤ 16)
theorem docsOk_spec (N : Nat) (hM : Sm < N) (hN : N ≤ 1099511627776) (xs : List EDoc) (ho : ∀ x, x ∈ xs → okD Sm TDoc x) (hl : xs.length ≤ 1048576) : i_DocsOk_m N xs = some (okDocs xs) := by
  have hM' : 1048576 < N := hM
  unfold i_DocsOk_m
  refine check_loop _ xs.length (fun n => (xs, xs, (xs.length : Int), (n : Int))) (okDc xs) _ (fun go => ?_) (fun go n hn => ?_) N (by omega)
  · dsimp only
    rw [decide_eq_false (Int.lt_irrefl _), cond_false]
  · dsimp only
    rw [decide_eq_true (by omega : (n : Int) < (xs.length : Int)), cond_true, idx_at hn, Option.bind_some, docOk_spec N hM hN xs[n].1 xs[n].2.1 xs[n].2.2 (ho xs[n] (List.getElem_mem hn)), Option.bind_some, if_pos (fits_nat (n := n) (by omega)), cast_succ']
    unfold okDc
    rw [← dAt_eq hn]
    cases okDoc xs[n] with
    | false => rfl
    | true =>
      rw [Bool.not_true, cond_false, Bool.true_and]
      cases n with
      | zero => rfl
      | succ n =>
        rw [decide_eq_true (by omega : (0 : Int) < ((n + 1 : Nat) : Int)), cond_true, if_pos (by unfold fits; omega), show (((n + 1 : Nat) : Int) - 1) = (n : Int) from by omega, idx_at (by omega), Option.bind_some, dAt_eq (n := n) (by omega), decide_eq_false (by omega : ¬ n + 1 = 0), Bool.false_or, Nat.add_sub_cancel]
        cases decide (xs[n + 1].1 ≤ (dAt xs n).1) <;> rfl
theorem l6Docs_spec (N : Nat) (hM : Sm < N) (hN : N ≤ 1099511627776) (xs : List EDoc) (ho : ∀ x, x ∈ xs → okD Sm TDoc x) (hl : xs.length ≤ 1048576) : s_l6Docs_m N xs = some (okDocs xs) := by
  have hM' : 1048576 < N := hM
  unfold s_l6Docs_m
  refine check_loop _ xs.length (fun n => (xs, (n : Int))) (okDc xs) _ (fun go => ?_) (fun go n hn => ?_) N (by omega)
  · dsimp only
    rw [decide_eq_false (Int.lt_irrefl _), cond_false]
  · dsimp only
    rw [decide_eq_true (by omega : (n : Int) < (xs.length : Int)), cond_true, idx_at hn, Option.bind_some, l6Ok_spec N hM hN xs[n].1 xs[n].2.1 xs[n].2.2 (ho xs[n] (List.getElem_mem hn)), Option.bind_some, Option.bind_some, if_pos (fits_nat (n := n) (by omega)), cast_succ']
    unfold okDc
    rw [← dAt_eq hn]
    cases okDoc xs[n] with
    | false => rfl
    | true =>
      rw [Bool.not_true, cond_false, Bool.true_and]
      cases n with
      | zero => rfl
      | succ n =>
        rw [decide_eq_true (by omega : (0 : Int) < ((n + 1 : Nat) : Int)), cond_true, if_pos (by unfold fits; omega), show (((n + 1 : Nat) : Int) - 1) = (n : Int) from by omega, idx_at (by omega), Option.bind_some, dAt_eq (n := n) (by omega), decide_eq_false (by omega : ¬ n + 1 = 0), Bool.false_or, Nat.add_sub_cancel]
        cases decide (xs[n + 1].1 ≤ (dAt xs n).1) <;> rfl
theorem okDocs_docs {xs : List EDoc} (ho : ∀ x, x ∈ xs → okD Sm TDoc x) (h : okDocs xs = true) : Docs xs := by
  unfold okDocs allN at h
  simp only [Bool.and_eq_true, List.all_eq_true, List.mem_range'_1, Nat.zero_add, Nat.zero_le, true_and] at h
  have key : ∀ n (hn : n < xs.length), okDoc xs[n] = true ∧ (n ≠ 0 → (dAt xs (n - 1)).1 < xs[n].1) := fun n hn => by
    have := h.1 n hn
    unfold okDc at this
    rw [← dAt_eq hn] at this
    simp only [Bool.and_eq_true, Bool.or_eq_true, decide_eq_true_eq, Bool.not_eq_true', decide_eq_false_iff_not] at this
    exact ⟨this.1, fun h0 => by rcases this.2 with h | h <;> omega⟩
  refine ⟨fun x hx => ?_, ?_⟩
  · obtain ⟨n, hn, rfl⟩ := List.mem_iff_getElem.1 hx
    exact ⟨ho _ hx, (key n hn).1⟩
  · have lt : ∀ j i (hj : j < xs.length) (hi : i < j), (xs[i]'(by omega)).1 < xs[j].1 := fun j => by
      induction j with
      | zero => intro i hj hi; omega
      | succ j ih =>
        intro i hj hi
        have h1 := (key (j + 1) hj).2 (by omega)
        rw [Nat.add_sub_cancel, ← dAt_eq (by omega)] at h1
        by_cases e : i = j
        · subst e; exact h1
        · have := ih i (by omega) (by omega)
          omega
    unfold List.Nodup
    rw [List.pairwise_map, List.pairwise_iff_getElem]
    intro i j hi hj hij e
    have := lt j i hj hij
    omega
theorem ids_spec (N : Nat) (xs : List EDoc) (h : xs.length < N) (hl : xs.length ≤ 1048576) : i_idsOf_m N xs = some (xs.map (·.1)) := by
  unfold i_idsOf_m
  refine (iter_scan _ xs.length (fun n => ((xs.take n).map (·.1), xs, (xs.length : Int), (n : Int))) (fun n => some (xs.map (·.1))) (fun go => ?_) (fun go n hn hgo => ?_) N 0 (Nat.zero_le _) (by omega))
  · dsimp only
    rw [decide_eq_false (Int.lt_irrefl _), cond_false, List.take_length]
  · simp only [cast_succ'] at hgo
    rw [List.take_succ_eq_append_getElem hn, List.map_append] at hgo
    dsimp only
    rw [decide_eq_true (by omega : (n : Int) < (xs.length : Int)), cond_true, idx_at hn, Option.bind_some, if_pos (room_of (by simp; omega) (by simp; omega)), if_pos (fits_nat (n := n) (by omega))]
    exact hgo
theorem implSort_def (N : Nat) (hM : Sm < N) (hN : N ≤ 1099511627776) (xs : List EDoc) (ks : List EKey) (ho : ∀ x, x ∈ xs → okD Sm TDoc x) (hl : xs.length ≤ 12) (hk : okD Sm (.sl TKey) ks) :
    Def (i_SortOf_m N xs ks) fun r => ((okDocs xs && okKeys ks) = false ∧ r = []) ∨ ((okDocs xs && okKeys ks) = true ∧ ∃ ys, ys.Perm xs ∧ InOrd ks ys ∧ r = ys.map (·.1)) := by
  have hM' : 1048576 < N := hM
  unfold i_SortOf_m
  rw [docsOk_spec N hM hN xs ho (by omega), keysOk_spec N hM hN ks hk]
  simp only [Option.bind_some]
  refine Def.bif (fun e => Def.ret (.inl ⟨?_, rfl⟩)) (fun e => ?_)
  · rw [Bool.not_eq_true'] at e; rw [e]; rfl
  have e1 : okDocs xs = true := by simpa using e
  refine Def.bif (fun e => Def.ret (.inl ⟨?_, rfl⟩)) (fun e => ?_)
  · rw [Bool.not_eq_true'] at e; rw [e, Bool.and_false]
  have e2 : okKeys ks = true := by simpa using e
  refine Def.ite (room_of (by simp; omega) (by simp; omega)) ?_
  rw [List.nil_append]
  refine Def.bind (sortFunc_def N hM hN xs ks (okDocs_docs ho e1) hk hl) fun r ⟨h1, h2⟩ => ?_
  have hrl := h1.length_eq
  rw [ids_spec N r (by omega) (by omega), Option.bind_some]
  exact Def.ret (.inr ⟨by rw [e1, e2]; rfl, r, h1, h2, rfl⟩)
end Go.Proofs.Ytjggioppicabbaa

/- Plain laws: spec.SortOf, and that both give the same. -/
set_option linter.unusedVariables false
set_option linter.unusedSimpArgs false
namespace Go.Proofs.Ytjggioppicabbaa
open Go.RowKit
theorem specSort_def (N : Nat) (hM : Sm < N) (hN : N ≤ 1099511627776) (xs : List EDoc) (ks : List EKey) (ho : ∀ x, x ∈ xs → okD Sm TDoc x) (hl : xs.length ≤ 1048576) (hk : okD Sm (.sl TKey) ks) :
    Def (s_SortOf_m N xs ks) fun r => ((okDocs xs && okKeys ks) = false ∧ r = []) ∨ ((okDocs xs && okKeys ks) = true ∧ ∃ ys, ys.Perm xs ∧ InOrd ks ys ∧ r = ys.map (·.1)) := by
  have hM' : 1048576 < N := hM
  unfold s_SortOf_m
  rw [l6Docs_spec N hM hN xs ho hl, l22Keys_spec N hM hN ks hk, Option.bind_some, Option.bind_some]
  refine Def.bif (fun e => Def.ret (.inl ⟨?_, rfl⟩)) (fun e => ?_)
  · rw [Bool.not_eq_true'] at e; rw [e]; rfl
  have e1 : okDocs xs = true := by simpa using e
  refine Def.bif (fun e => Def.ret (.inl ⟨?_, rfl⟩)) (fun e => ?_)
  · rw [Bool.not_eq_true'] at e; rw [e, Bool.and_false]
  have e2 : okKeys ks = true := by simpa using e
  have hD := okDocs_docs ho e1
  refine Def.upto xs.length (fun n g => ∃ l, l.Perm (xs.take n) ∧ InOrd ks l ∧ g = (xs, ks, l, (n : Int))) ?_ ?_ N 0 _ (Nat.zero_le _) ⟨[], by simp, List.Pairwise.nil, rfl⟩ (by omega)
  · rintro go _ ⟨l, hp, ha, rfl⟩
    rw [List.take_length] at hp
    have hll := hp.length_eq
    dsimp only
    rw [decide_eq_false (Int.lt_irrefl _), cond_false]
    refine Def.upto l.length (fun n g => g = (l, (l.take n).map (·.1), (n : Int))) ?_ ?_ N 0 _ (Nat.zero_le _) rfl (by omega)
    · rintro go3 _ rfl
      dsimp only
      rw [decide_eq_false (Int.lt_irrefl _), cond_false, List.take_length]
      exact Def.ret (.inr ⟨by rw [e1, e2]; rfl, l, hp, ha, rfl⟩)
    · rintro go3 n _ hn rfl hgo
      dsimp only
      rw [decide_eq_true (by omega : (n : Int) < (l.length : Int)), cond_true, idx_at hn, Option.bind_some]
      refine Def.ite (room_of (by simp; omega) (by simp; omega)) (Def.ite (fits_nat (n := n) (by omega)) (hgo _ ?_))
      rw [List.take_succ_eq_append_getElem hn, List.map_append, cast_succ']
      rfl
  · rintro go n _ hn ⟨l, hp, ha, rfl⟩ hgo
    dsimp only
    have hll := hp.length_eq
    rw [List.length_take] at hll
    rw [decide_eq_true (by omega : (n : Int) < (xs.length : Int)), cond_true]
    have hnx : xs[n] ∈ xs := List.getElem_mem hn
    have ox := hD.ok _ hnx
    have hin : ∀ y, y ∈ l → y ∈ xs ∧ y.1 ≠ xs[n].1 := fun y hy => by
      have hy' := hp.mem_iff.1 hy
      refine ⟨List.mem_of_mem_take hy', fun e => ?_⟩
      have hnd := hD.one
      rw [← List.take_append_drop n xs, List.drop_eq_getElem_cons hn, List.map_append, List.map_cons] at hnd
      exact (List.nodup_append.1 hnd).2.2 y.1 (List.mem_map_of_mem hy') xs[n].1 (by simp) e
    have put : ∀ (k : Nat), k ≤ l.length → (∀ y, y ∈ l.take k → lessK y xs[n] ks = true) → (∀ y, y ∈ l.drop k → lessK xs[n] y ks = true) →
        Def (Option.bind (cut l 0 (k : Int)) fun y => if room ([] : List EDoc).length y.length 56 then Option.bind (idx xs (n : Int)) fun e3 => if room (([] : List EDoc) ++ y).length ([e3] : List EDoc).length 56 then
          Option.bind (cut l (k : Int) (l.length : Int)) fun y2 => if room ((([] : List EDoc) ++ y) ++ ([e3] : List EDoc)).length y2.length 56 then (if fits ((n : Int) + 1) then go (xs, ks, (((([] : List EDoc) ++ y) ++ ([e3] : List EDoc)) ++ y2), (n : Int) + 1) else none) else none else none else none)
          fun r => ((okDocs xs && okKeys ks) = false ∧ r = []) ∨ ((okDocs xs && okKeys ks) = true ∧ ∃ ys, ys.Perm xs ∧ InOrd ks ys ∧ r = ys.map (·.1)) := fun k hkl h1 h2 => by
      refine Def.cut (by omega) (by omega) (by omega) ?_
      have c1 : (l.take ((k : Int)).toNat).drop ((0 : Int)).toNat = l.take k := rfl
      rw [c1]
      refine Def.ite (room_of (by simp; omega) (by simp; omega)) ?_
      rw [idx_at hn, Option.bind_some]
      refine Def.ite (room_of (by simp; omega) (by simp; omega)) ?_
      refine Def.cut (by omega) (by omega) (by omega) ?_
      have c2 : (l.take ((l.length : Int)).toNat).drop ((k : Int)).toNat = l.drop k := by show (l.take l.length).drop k = l.drop k; rw [List.take_length]
      rw [c2]
      refine Def.ite (room_of (by simp; omega) (by simp; omega)) (Def.ite (fits_nat (n := n) (by omega)) (hgo _ ⟨_, ?_, ?_, by rw [cast_succ']⟩))
      · rw [List.nil_append, List.take_succ_eq_append_getElem hn, List.append_assoc]
        refine (List.Perm.append_left _ (List.perm_append_comm)).trans ?_
        rw [← List.append_assoc, List.take_append_drop]
        exact List.Perm.append_right _ hp
      · unfold InOrd at ha ⊢
        rw [List.nil_append, List.append_assoc, List.singleton_append]
        rw [← List.take_append_drop k l, List.pairwise_append] at ha
        rw [List.pairwise_append]
        refine ⟨ha.1, List.pairwise_cons.2 ⟨h2, ha.2.1⟩, fun a ha' b hb => ?_⟩
        rcases List.mem_cons.1 hb with rfl | hb
        · exact h1 a ha'
        · exact ha.2.2 a ha' b hb
    refine Def.upto l.length (fun k g => (∀ y, y ∈ l.take k → lessK y xs[n] ks = true) ∧ g = (xs, ks, l, (n : Int), (k : Int))) ?_ ?_ N 0 _ (Nat.zero_le _) ⟨fun y hy => by simp at hy, rfl⟩ (by omega)
    · rintro go2 _ ⟨h1, rfl⟩
      dsimp only
      rw [decide_eq_false (Int.lt_irrefl _), cond_false]
      exact put l.length (Nat.le_refl _) h1 (fun y hy => by rw [List.drop_length] at hy; cases hy)
    · rintro go2 k _ hkl ⟨h1, rfl⟩ hgo2
      dsimp only
      rw [decide_eq_true (by omega : (k : Int) < (l.length : Int)), cond_true, idx_at hkl, Option.bind_some, idx_at hn, Option.bind_some]
      have hy := hin _ (List.getElem_mem hkl)
      have oy := hD.ok _ hy.1
      refine Def.bind (l22Less_spec N hM hN l[k] xs[n] ks oy.1 ox.1 hk oy.2 ox.2) fun r hr => ?_
      subst hr
      refine Def.bif (fun er => ?_) (fun er => ?_)
      · refine Def.ite (fits_nat (n := k) (by omega)) (hgo2 _ ⟨fun y hy => ?_, by rw [cast_succ']⟩)
        rw [List.take_succ_eq_append_getElem hkl, List.mem_append, List.mem_singleton] at hy
        rcases hy with hy | rfl
        · exact h1 y hy
        · exact er
      · have hx : lessK xs[n] l[k] ks = true := by
          rcases lessK_total l[k] xs[n] hy.2 ks with h | h
          · rw [er] at h; cases h
          · exact h
        have := put k (by omega) h1 (fun y hy => by
          rw [List.drop_eq_getElem_cons hkl, List.mem_cons] at hy
          rcases hy with rfl | hy
          · exact hx
          · unfold InOrd at ha
            rw [← List.take_append_drop k l, List.pairwise_append, List.drop_eq_getElem_cons hkl, List.pairwise_cons] at ha
            exact lessK_trans _ _ _ ks hx (ha.2.1.1 y hy))
        rw [idx_at hn] at this
        exact this
theorem sort_same (N : Nat) (hM : Sm < N) (hN : N ≤ 1099511627776) (xs : List EDoc) (ks : List EKey) (ho : ∀ x, x ∈ xs → okD Sm TDoc x) (hl : xs.length ≤ 12) (hk : okD Sm (.sl TKey) ks) :
    ∃ r, i_SortOf_m N xs ks = some r ∧ s_SortOf_m N xs ks = some r ∧ (((okDocs xs && okKeys ks) = false ∧ r = []) ∨ ((okDocs xs && okKeys ks) = true ∧ ∃ ys, ys.Perm xs ∧ InOrd ks ys ∧ r = ys.map (·.1))) := by
  obtain ⟨r, h1, h2⟩ := implSort_def N hM hN xs ks ho hl hk
  obtain ⟨r', h3, h4⟩ := specSort_def N hM hN xs ks ho (by omega) hk
  have e : r = r' := by
    rcases h2 with ⟨a, b⟩ | ⟨a, ys, p, o, b⟩ <;> rcases h4 with ⟨c, d⟩ | ⟨c, zs, q, u, d⟩
    · rw [b, d]
    · rw [a] at c; cases c
    · rw [a] at c; cases c
    · rw [b, d, ahead_same (p.trans q.symm) o u]
  subst e
  exact ⟨r, h1, h3, h2⟩
end Go.Proofs.Ytjggioppicabbaa

/- Plain laws: documents that are drawn; FnSortNone. -/
set_option linter.unusedVariables false
set_option linter.unusedSimpArgs false
namespace Go.Proofs.Ytjggioppicabbaa
open Go.RowKit
theorem foInts_spec (N : Nat) (a b : List Int) (h : a.length < N) (hN : N ≤ 1099511627776) : l_foInts_m N a b = some (decide (a = b)) :=
  eqLoop_spec (fun (e e2 : Int) => some (decide (e = e2))) N a b h hN fun x hx y => rfl
theorem docs_def (N : Nat) {b : List Int} {k : Int} {j : Nat} (h : Rdr b k j) (hj : j ≤ 1000) (hN : 20 ≤ N) : Def (s_l30Docs_m N b k) fun r => (r.1.length ≤ 6 ∧ ∀ x, x ∈ r.1 → okD Sm TDoc x ∧ shortN x.2.2) ∧ Rdr r.2.1 r.2.2 (j + 700) := by
  unfold s_l30Docs_m
  refine Def.bind (pick_def N 6 h (by omega)) fun r ⟨p0, p1, _, h1⟩ => ?_
  have p1 := p1 (by omega)
  refine Def.iter (fun g => ∃ out : List EDoc, ∃ id : Int, ∃ n : Nat, ∃ x y, n ≤ 6 ∧ out.length + n ≤ 6 ∧ (0 ≤ id ∧ id ≤ 4 * (6 - n)) ∧ (∀ z, z ∈ out → okD Sm TDoc z ∧ shortN z.2.2) ∧ Rdr x y (j + 1 + 110 * (6 - n)) ∧ g = (out, id, (n : Int), x, y)) (fun g => g.2.2.1.toNat) ?_ N _ ⟨[], 0, r.1.toNat, _, _, by omega, by simp; omega, by omega, (fun z hz => by cases hz), h1.le (by omega), by rw [Int.toNat_of_nonneg p0]⟩ (by show r.1.toNat < N; omega)
  rintro go _ ⟨out, id, n, x, y, hn, hl, hid, ho, hr, rfl⟩ hgo
  dsimp only
  refine Def.dif (fun e => ?_) (fun e => Def.ret ⟨⟨by dsimp only; omega, ho⟩, hr.le (by omega)⟩)
  refine Def.ite (by unfold fits; omega) ?_
  refine Def.bind (pick_def N 3 hr (by omega)) fun r2 ⟨q0, q1, _, h2⟩ => ?_
  have q1 := q1 (by omega)
  refine Def.ite (by unfold fits; omega) ?_
  refine Def.bind (doc_def N _ h2 (by omega) hN) fun r3 ⟨e3, s3, h3⟩ => ?_
  refine Def.ite (room_of (by simp; omega) (by simp; omega)) (Def.ite (by unfold fits; omega) (hgo _ ⟨out ++ [(r3.1, r3.2.1, r3.2.2.1)], id + 1 + r2.1, n - 1, _, _, by omega, ?_, by omega, fun z hz => ?_, h3.le (by omega), ?_⟩ ?_))
  · simp only [List.length_append, List.length_cons, List.length_nil]; omega
  · rcases List.mem_append.1 hz with hz | hz
    · exact ho z hz
    · rw [List.mem_singleton.1 hz]; exact ⟨s3.ok (by omega) (by rw [e3]; omega), s3.short⟩
  · rw [show ((n : Int) - 1) = ((n - 1 : Nat) : Int) from by omega]
  · show ((n : Int) - 1).toNat < (n : Int).toNat
    omega
theorem anyDocs_def (N : Nat) {b : List Int} {k : Int} {j : Nat} (h : Rdr b k j) (hj : j ≤ 1000) (hN : 20 ≤ N) : Def (s_l30AnyDocs_m N b k) fun r => (r.1.length ≤ 7 ∧ ∀ x, x ∈ r.1 → okD Sm TDoc x ∧ shortN x.2.2) ∧ Rdr r.2.1 r.2.2 (j + 1000) := by
  unfold s_l30AnyDocs_m
  refine Def.bind (docs_def N h hj hN) fun r ⟨⟨l1, o1⟩, h1⟩ => ?_
  refine Def.bind (pick_def N 10 h1 (by omega)) fun r2 ⟨_, _, _, h2⟩ => ?_
  refine Def.dif (fun _ => ?_) (fun _ => Def.ret ⟨⟨by dsimp only; omega, o1⟩, h2.le (by omega)⟩)
  refine Def.bind (anyDoc_def N h2 (by omega) hN) fun r3 ⟨o3, h3⟩ => ?_
  refine Def.ite (room_of (by simp; omega) (by simp; omega)) (Def.ret ⟨⟨by simp only [List.length_append, List.length_cons, List.length_nil]; omega, fun z hz => ?_⟩, h3.le (by omega)⟩)
  rcases List.mem_append.1 hz with hz | hz
  · exact o1 z hz
  · rw [List.mem_singleton.1 hz]; exact o3
theorem drawSort_def (N : Nat) {code : List Int} (hb : Bs code) (hN : 20 ≤ N) : Def (s_DrawSortOf_m N code) fun r => r.1.length ≤ 7 ∧ (∀ x, x ∈ r.1 → okD Sm TDoc x ∧ shortN x.2.2) ∧ okD Sm (.sl TKey) r.2 := by
  unfold s_DrawSortOf_m
  refine Def.bind (open_def N hb) fun r h0 => ?_
  refine Def.bind (anyDocs_def N h0 (by omega) hN) fun r2 ⟨⟨l2, o2⟩, h2⟩ => ?_
  exact Def.bind (keys_def N h2 (by omega) hN) fun r3 o3 => Def.ret ⟨l2, o2, o3⟩
end Go.Proofs.Ytjggioppicabbaa

/- The law FnSortOf, in plain Lean. -/
set_option linter.unusedVariables false
set_option linter.unusedSimpArgs false
namespace Go.Proofs.Ytjggioppicabbaa
open Go.RowKit
theorem foIn_def (N : Nat) (l : List Int) (n : Int) (h : l.length < N) (hN : N ≤ 1099511627776) (hn : n ∈ l) : Def (l_foIn_m N l n) fun r => r = true := by
  unfold l_foIn_m
  refine Def.upto l.length (fun i g => n ∈ l.drop i ∧ g = (l, n, (i : Int))) ?_ ?_ N 0 _ (Nat.zero_le _) ⟨hn, rfl⟩ (by omega)
  · rintro go _ ⟨hm, rfl⟩
    rw [List.drop_length] at hm; cases hm
  · rintro go i _ hi ⟨hm, rfl⟩ hgo
    dsimp only
    rw [decide_eq_true (by omega : (i : Int) < (l.length : Int)), cond_true, idx_at hi, Option.bind_some]
    refine Def.dif (fun _ => Def.ret rfl) (fun e => ?_)
    rw [List.drop_eq_getElem_cons hi, List.mem_cons] at hm
    exact Def.ite (fits_nat (n := i) (by omega)) (hgo _ ⟨hm.resolve_left fun h => e h.symm, by rw [cast_succ']⟩)
theorem foFind_def (N : Nat) (xs : List EDoc) (x : EDoc) (h : xs.length < N) (hN : N ≤ 1099511627776) (hx : x ∈ xs) (hnd : (xs.map (·.1)).Nodup) : Def (l_foFind_m N xs x.1) fun r => r = x := by
  unfold l_foFind_m
  refine Def.upto xs.length (fun i g => x ∈ xs.drop i ∧ g = (xs, x.1, (i : Int), 0)) ?_ ?_ N 0 _ (Nat.zero_le _) ⟨hx, rfl⟩ (by omega)
  · rintro go _ ⟨hm, rfl⟩
    rw [List.drop_length] at hm; cases hm
  · rintro go i _ hi ⟨hm, rfl⟩ hgo
    dsimp only
    rw [decide_eq_true (by omega : (i : Int) < (xs.length : Int)), cond_true, idx_at hi, Option.bind_some, Option.bind_some]
    rw [List.drop_eq_getElem_cons hi, List.mem_cons] at hm
    refine Def.dif (fun e => Def.ret ?_) (fun e => ?_)
    · rcases hm with hm | hm
      · exact hm.symm
      · rw [← List.take_append_drop i xs, List.drop_eq_getElem_cons hi, List.map_append, List.map_cons] at hnd
        have h2 := (List.nodup_cons.1 (List.nodup_append.1 hnd).2.1).1
        exact absurd (by rw [e]; exact List.mem_map_of_mem hm) h2
    · exact Def.ite (fits_nat (n := i) (by omega)) (hgo _ ⟨hm.resolve_left fun h => e (by rw [← h]), by rw [cast_succ']⟩)
theorem fnSortOf_law0 (N : Nat) (hM : Sm < N) (hN : N ≤ 1099511627776) (code : List Int) (hb : Bs code) : l_FnSortOf_m N code = some true := by
  have hM' : 1048576 < N := hM
  refine Def.get ?_
  unfold l_FnSortOf_m
  refine Def.dif (fun _ => Def.ret rfl) (fun _ => ?_)
  refine Def.bind (drawSort_def N hb (by omega)) fun r ⟨hl, ho, hk⟩ => ?_
  obtain ⟨xs, ks⟩ := r
  dsimp only at hl ho hk ⊢
  have ho : ∀ x, x ∈ xs → okD Sm TDoc x := fun x hx => (ho x hx).1
  obtain ⟨l, e1, e2, hs⟩ := sort_same N hM hN xs ks ho (by omega) hk
  have hll : l.length ≤ 7 := by
    rcases hs with ⟨_, rfl⟩ | ⟨_, ys, hp, _, rfl⟩
    · simp
    · rw [List.length_map, hp.length_eq]; exact hl
  have e3 : l_foInts_m N l l = some true := (foInts_spec N l l (by omega) hN).trans (by rw [decide_eq_true rfl])
  rw [e1, Option.bind_some, e2, Option.bind_some, e3, Option.bind_some, Bool.not_true, cond_false]
  refine Def.dif (fun _ => by rw [Option.bind_some, e3, Option.bind_some]; exact Def.ret rfl) (fun h0 => ?_)
  rcases hs with ⟨_, rfl⟩ | ⟨hok, ys, hp, ha, rfl⟩
  · exact absurd rfl h0
  simp only [Bool.and_eq_true] at hok
  have hD := okDocs_docs ho hok.1
  have hyl := hp.length_eq
  refine Def.upto xs.length (fun n g => g = (xs, ks, ys.map (·.1), (n : Int))) ?_ ?_ N 0 _ (Nat.zero_le _) rfl (by omega)
  · rintro go _ rfl
    dsimp only
    rw [decide_eq_false (Int.lt_irrefl _), cond_false]
    have hy0 : 1 ≤ ys.length := by
      rw [List.length_map] at h0; omega
    refine Def.upto ys.length (fun n g => 1 ≤ n ∧ g = (xs, ks, ys.map (·.1), (n : Int))) ?_ ?_ N 1 _ hy0 ⟨Nat.le_refl _, rfl⟩ (by omega)
    · rintro go2 _ ⟨_, rfl⟩
      dsimp only
      rw [List.length_map, decide_eq_false (Int.lt_irrefl _), cond_false]
      exact Def.ret (decide_eq_true (by omega))
    · rintro go2 n _ hn ⟨hn1, rfl⟩ hgo
      obtain ⟨i, rfl⟩ : ∃ i, n = i + 1 := ⟨n - 1, by omega⟩
      dsimp only
      rw [List.length_map, decide_eq_true (by omega : ((i + 1 : Nat) : Int) < (ys.length : Int)), cond_true]
      refine Def.ite (by unfold fits; omega) ?_
      have m1 : ys[i] ∈ xs := hp.mem_iff.1 (List.getElem_mem (by omega))
      have m2 : ys[i + 1] ∈ xs := hp.mem_iff.1 (List.getElem_mem hn)
      have i1 : idx (ys.map (·.1)) (((i + 1 : Nat) : Int) - 1) = some ys[i].1 := by
        rw [show (((i + 1 : Nat) : Int) - 1) = (i : Int) from by omega, idx_at (by rw [List.length_map]; omega), List.getElem_map]
      have i2 : idx (ys.map (·.1)) ((i + 1 : Nat) : Int) = some ys[i + 1].1 := by
        rw [idx_at (by rw [List.length_map]; omega), List.getElem_map]
      rw [i1, Option.bind_some]
      refine Def.bind (foFind_def N xs ys[i] (by omega) hN m1 hD.one) fun a ha' => ?_
      subst ha'
      rw [i2, Option.bind_some]
      refine Def.bind (foFind_def N xs ys[i + 1] (by omega) hN m2 hD.one) fun b hb' => ?_
      subst hb'
      have o1 := hD.ok _ m1
      have o2 := hD.ok _ m2
      have hlt : lessK ys[i] ys[i + 1] ks = true := List.pairwise_iff_getElem.1 ha i (i + 1) (by omega) hn (by omega)
      rw [implLess_spec N hM hN _ _ ks o1.1 o2.1 hk, Option.bind_some]
      have hsl : sortLess ys[i] ys[i + 1] ks = true := by unfold sortLess; rw [o1.2, o2.2, hok.2, hlt]; rfl
      rw [hsl, Bool.not_true, cond_false]
      exact Def.ite (fits_nat (n := i + 1) (by omega)) (hgo _ ⟨by omega, by rw [cast_succ' (i + 1)]⟩)
  · rintro go n _ hn rfl hgo
    dsimp only
    rw [decide_eq_true (by omega : (n : Int) < (xs.length : Int)), cond_true, idx_at hn, Option.bind_some]
    have hm : xs[n].1 ∈ ys.map (·.1) := List.mem_map_of_mem (hp.mem_iff.2 (List.getElem_mem hn))
    refine Def.bind (foIn_def N _ _ (by rw [List.length_map]; omega) hN hm) fun r9 h9 => ?_
    subst h9
    rw [Bool.not_true, cond_false]
    exact Def.ite (fits_nat (n := n) (by omega)) (hgo _ (by rw [cast_succ']))
theorem fnSortOf_law (code : List Int) (o0 : okD BigN (.sl (.int .u8)) code) : l_FnSortOf_m 1048700 code = some true := fnSortOf_law0 1048700 (by decide) (by decide) code (bytes_ok o0)
end Go.Proofs.Ytjggioppicabbaa

/- The law FnSortNone, in plain Lean. -/
set_option linter.unusedVariables false
set_option linter.unusedSimpArgs false
namespace Go.Proofs.Ytjggioppicabbaa
open Go.RowKit
theorem okDocs_asc {xs : List EDoc} (h : okDocs xs = true) : InOrd [] xs := by
  unfold okDocs allN at h
  simp only [Bool.and_eq_true, List.all_eq_true, List.mem_range'_1, Nat.zero_add, Nat.zero_le, true_and] at h
  have key : ∀ n (hn : n < xs.length), n ≠ 0 → (dAt xs (n - 1)).1 < xs[n].1 := fun n hn h0 => by
    have := h.1 n hn
    unfold okDc at this
    rw [← dAt_eq hn] at this
    simp only [Bool.and_eq_true, Bool.or_eq_true, decide_eq_true_eq, Bool.not_eq_true', decide_eq_false_iff_not] at this
    rcases this.2 with h | h <;> omega
  have lt : ∀ j i (hj : j < xs.length) (hi : i < j), (xs[i]'(by omega)).1 < xs[j].1 := fun j => by
    induction j with
    | zero => intro i hj hi; omega
    | succ j ih =>
      intro i hj hi
      have h1 := key (j + 1) hj (by omega)
      rw [Nat.add_sub_cancel, ← dAt_eq (by omega)] at h1
      by_cases e : i = j
      · subst e; exact h1
      · have := ih i (by omega) (by omega)
        omega
  unfold InOrd
  rw [List.pairwise_iff_getElem]
  intro i j hi hj hij
  unfold lessK
  exact decide_eq_true (lt j i hj hij)
def nobody : List UInt8 := [110, 111, 98, 111, 100, 121]
theorem numFrom_short : ∀ ats : List EAttr, shortN ats → numFrom nobody ats = -1
  | [], _ => rfl
  | x :: xs, h => by
    rw [numFrom, if_neg (fun e => ?_)]
    · exact numFrom_short xs fun y hy => h y (List.mem_cons_of_mem _ hy)
    · have := h x (List.mem_cons_self ..)
      rw [e] at this
      exact absurd this (by decide)
theorem lessK_nobody (a b : EDoc) (ha : shortN a.2.2) (hb : shortN b.2.2) : lessK a b [(nobody, true)] = lessK a b [] := by
  show (if numFrom nobody a.2.2 = numFrom nobody b.2.2 then lessK a b [] else _) = _
  rw [numFrom_short _ ha, numFrom_short _ hb, if_pos rfl]
theorem fnSortNone_law0 (N : Nat) (hM : Sm < N) (hN : N ≤ 1099511627776) (code : List Int) (hb : Bs code) : l_FnSortNone_m N code = some true := by
  have hM' : 1048576 < N := hM
  refine Def.get ?_
  unfold l_FnSortNone_m
  refine Def.dif (fun _ => Def.ret rfl) (fun _ => ?_)
  refine Def.bind (drawSort_def N hb (by omega)) fun r ⟨hl, ho', hk⟩ => ?_
  obtain ⟨xs, ks⟩ := r
  dsimp only at hl ho' hk ⊢
  have ho : ∀ x, x ∈ xs → okD Sm TDoc x := fun x hx => (ho' x hx).1
  obtain ⟨l, e1, e2, hs⟩ := sort_same N hM hN xs ks ho (by omega) hk
  have hll : l.length ≤ 7 := by
    rcases hs with ⟨_, rfl⟩ | ⟨_, ys, hp, _, rfl⟩
    · simp
    · rw [List.length_map, hp.length_eq]; exact hl
  have e3 : l_foInts_m N l l = some true := (foInts_spec N l l (by omega) hN).trans (by rw [decide_eq_true rfl])
  rw [e1, Option.bind_some, e2, Option.bind_some, e3, Option.bind_some, Bool.not_true, cond_false, docsOk_spec N hM hN xs ho (by omega), Option.bind_some]
  refine Def.bif (fun _ => by rw [Option.bind_some, e3, Option.bind_some]; exact Def.ret rfl) (fun h0 => ?_)
  have hok : okDocs xs = true := by simpa using h0
  have hx := okDocs_asc hok
  have hself : l_foInts_m N (xs.map (·.1)) (xs.map (·.1)) = some true := (foInts_spec N _ _ (by rw [List.length_map]; omega) hN).trans (by rw [decide_eq_true rfl])
  have one : ∀ ks' : List EKey, okD Sm (.sl TKey) ks' → okKeys ks' = true → InOrd ks' xs → i_SortOf_m N xs ks' = some (xs.map (·.1)) := fun ks' hk' hok' hin => by
    obtain ⟨l', g1, _, hs'⟩ := sort_same N hM hN xs ks' ho (by omega) hk'
    rcases hs' with ⟨h, _⟩ | ⟨_, ys, hp, hy, rfl⟩
    · rw [hok, hok'] at h; cases h
    · rw [g1, ahead_same hp hy hin]
  have i1 := one [] ⟨by show 0 ≤ 1048576; omega, fun x hx => by cases hx⟩ (by decide) hx
  have i2 := one [(nobody, true)] ⟨by show 1 ≤ 1048576; omega, fun x hx => by rw [List.mem_singleton.1 hx]; exact ⟨by show 6 ≤ 1048576; omega, True.intro⟩⟩ (by decide) (by
    unfold InOrd at hx ⊢
    exact hx.imp_of_mem fun {a b} ha hb h => (lessK_nobody a b (ho' a ha).2 (ho' b hb).2).trans h)
  unfold nobody at i2
  refine Def.upto xs.length (fun n g => g = (xs, (xs.take n).map (·.1), (n : Int))) ?_ ?_ N 0 _ (Nat.zero_le _) rfl (by omega)
  · rintro go _ rfl
    dsimp only
    rw [decide_eq_false (Int.lt_irrefl _), cond_false, List.take_length, i1, Option.bind_some, hself, Option.bind_some, cond_true, i2, Option.bind_some, hself, Option.bind_some]
    exact Def.ret rfl
  · rintro go n _ hn rfl hgo
    dsimp only
    rw [decide_eq_true (by omega : (n : Int) < (xs.length : Int)), cond_true, idx_at hn, Option.bind_some]
    refine Def.ite (room_of (by simp; omega) (by simp; omega)) (Def.ite (fits_nat (n := n) (by omega)) (hgo _ ?_))
    rw [cast_succ', List.take_succ_eq_append_getElem hn, List.map_append]
    rfl
theorem fnSortNone_law (code : List Int) (o0 : okD BigN (.sl (.int .u8)) code) : l_FnSortNone_m 1048700 code = some true := fnSortNone_law0 1048700 (by decide) (by decide) code (bytes_ok o0)
end Go.Proofs.Ytjggioppicabbaa

/- The law FnSortPage, in plain Lean. -/
set_option linter.unusedVariables false
set_option linter.unusedSimpArgs false
namespace Go.Proofs.Ytjggioppicabbaa
open Go.RowKit
/-- A page of a list: what comes behind a value, so many. -/
inductive Page (l : List Int) (a many : Int) : List Int → Prop
  | none (h : a ∉ l) : Page l a many []
  | few (h : many < 1) : Page l a many []
  | at (j : Nat) (hj : l[j]? = some a) (hb : a ∉ l.take j) (hm : 1 ≤ many) : Page l a many ((l.drop (j + 1)).take many.toNat)
theorem first_one {l : List Int} {a : Int} {i j : Nat} (h1 : l[i]? = some a) (h2 : a ∉ l.take i) (h3 : l[j]? = some a) (h4 : a ∉ l.take j) : i = j := by
  have aux : ∀ i j : Nat, l[i]? = some a → a ∉ l.take j → ¬ i < j := fun i j g1 g2 hij => by
    refine g2 (List.mem_of_getElem? (i := i) ?_)
    rw [List.getElem?_take_of_lt hij]; exact g1
  have := aux i j h1 h4
  have := aux j i h3 h2
  omega
theorem Page.same {l : List Int} {a many : Int} {x y : List Int} (h1 : Page l a many x) (h2 : Page l a many y) : x = y := by
  rcases h1 with h | h | ⟨j, hj, hb, hm⟩ <;> rcases h2 with h' | h' | ⟨i, hi, hb', hm'⟩
  · rfl
  · rfl
  · exact absurd (List.mem_of_getElem? hi) h
  · rfl
  · rfl
  · omega
  · exact absurd (List.mem_of_getElem? hj) h'
  · omega
  · rw [first_one hj hb hi hb']
theorem not_take_succ {l : List Int} {a : Int} {n : Nat} (hn : n < l.length) (h : a ∉ l.take n) (e : ¬ a = l[n]) : a ∉ l.take (n + 1) := by
  rw [List.take_succ_eq_append_getElem hn, List.mem_append, List.mem_singleton]
  rintro (h' | h')
  · exact h h'
  · exact e h'
theorem index_def (N : Nat) (l : List Int) (a : Int) (h : l.length < N) (hN : N ≤ 1099511627776) : Def (k_slices_Index_484_m N l a) fun r => (r = -1 ∧ a ∉ l) ∨ ∃ j : Nat, r = (j : Int) ∧ j < l.length ∧ l[j]? = some a ∧ a ∉ l.take j := by
  unfold k_slices_Index_484_m
  refine Def.upto l.length (fun n g => a ∉ l.take n ∧ g = (l, a, (l.length : Int), (n : Int))) ?_ ?_ N 0 _ (Nat.zero_le _) ⟨by simp, rfl⟩ (by omega)
  · rintro go _ ⟨hm, rfl⟩
    dsimp only
    rw [decide_eq_false (Int.lt_irrefl _), cond_false]
    rw [List.take_length] at hm
    exact Def.ret (.inl ⟨rfl, hm⟩)
  · rintro go n _ hn ⟨hm, rfl⟩ hgo
    dsimp only
    rw [decide_eq_true (by omega : (n : Int) < (l.length : Int)), cond_true, idx_at hn, Option.bind_some]
    refine Def.dif (fun e => Def.ret (.inr ⟨n, rfl, hn, by rw [List.getElem?_eq_getElem hn, e], hm⟩)) (fun e => ?_)
    exact Def.ite (fits_nat (n := n) (by omega)) (hgo _ ⟨not_take_succ hn hm e, by rw [cast_succ']⟩)
theorem implPage_tail (N : Nat) (l : List Int) (a many : Int) (h : l.length < N) (hl : l.length ≤ 1048576) (hN : N ≤ 1099511627776) :
    Def (Option.bind (k_slices_Index_484_m N l a) fun (r2 : Int) =>
      (bif (decide (r2 < 0)) then
        (some ([] : List Int))
        else
        (bif (decide (many < 1)) then
          (some ([] : List Int))
          else
          (if fits (r2 + 1) then (Option.bind (cut l (r2 + 1) (l.length : Int)) fun (y : List Int) =>
              (Option.bind (cut y 0 (if (y.length : Int) < many then (y.length : Int) else many)) fun (y2 : List Int) =>
                (if room ([] : List Int).length y2.length 8 then
                  (some (([] : List Int) ++ y2))
                  else none))) else none)))) (Page l a many) := by
  refine Def.bind (index_def N l a h hN) fun r hr => ?_
  refine Def.dif (fun e => ?_) (fun e => ?_)
  · rcases hr with ⟨_, h⟩ | ⟨j, rfl, _⟩
    · exact Def.ret (.none h)
    · omega
  refine Def.dif (fun e2 => Def.ret (.few e2)) (fun e2 => ?_)
  rcases hr with ⟨rfl, _⟩ | ⟨j, rfl, hj, h1, h2⟩
  · exact absurd (by decide) e
  refine Def.ite (fits_nat (n := j) (by omega)) (Def.cut (by omega) (by omega) (by omega) ?_)
  have c1 : (l.take ((l.length : Int)).toNat).drop (((j : Int) + 1)).toNat = l.drop (j + 1) := by
    rw [Int.toNat_natCast, List.take_length, show ((j : Int) + 1).toNat = j + 1 from by omega]
  rw [c1]
  have hdl : (l.drop (j + 1)).length = l.length - (j + 1) := List.length_drop
  have fin : ∀ k : Int, 0 ≤ k → k ≤ ((l.drop (j + 1)).length : Int) → (l.drop (j + 1)).take k.toNat = (l.drop (j + 1)).take many.toNat →
      Def (Option.bind (cut (l.drop (j + 1)) 0 k) fun (y2 : List Int) => (if room ([] : List Int).length y2.length 8 then (some (([] : List Int) ++ y2)) else none)) (Page l a many) := fun k k0 k1 k2 => by
    refine Def.cut (by omega) k0 k1 ?_
    have c2 : ((l.drop (j + 1)).take k.toNat).drop ((0 : Int)).toNat = (l.drop (j + 1)).take many.toNat := k2
    rw [c2]
    have hyl : ((l.drop (j + 1)).take many.toNat).length ≤ 1048576 := by simp only [List.length_take, List.length_drop]; omega
    refine Def.ite (room_of (by simp only [List.length_nil]; omega) (by simp only [List.length_nil]; omega)) ?_
    rw [List.nil_append]
    exact Def.ret (.at j h1 h2 (by omega))
  by_cases e3 : ((l.drop (j + 1)).length : Int) < many
  · rw [if_pos e3]
    refine fin _ (by omega) (Int.le_refl _) ?_
    rw [Int.toNat_natCast, List.take_length, List.take_of_length_le (by omega)]
  · rw [if_neg e3]
    exact fin _ (by omega) (by omega) rfl
theorem specPage_tail (N : Nat) (l : List Int) (a many : Int) (h : l.length < N) (hl : l.length ≤ 1048576) (hN : N ≤ 1099511627776) (F) (hF : F = fun (go : (Int × Int × (List Int) × (List Int) × Bool × Int) → Option ((List Int))) (g : Int × Int × (List Int) × (List Int) × Bool × Int) => 
        match g with
        | (after2, many2, out, list, on, i) =>
        (bif (decide (i < (list.length : Int))) then
          (bif (decide ((out.length : Int) < many2)) then
            (meet (fun (g : Int × Int × (List Int) × (List Int) × Bool × Int × Bool) => 
                match g with
                | (after3, many3, out2, list2, on2, i2, t25) =>
                (bif on2 then
                  (if fits (i2 + 1) then (go (after3, many3, out2, list2, true, (i2 + 1))) else none)
                  else
                  (Option.bind (idx list2 i2) fun (e2 : Int) =>
                    (if fits (i2 + 1) then (go (after3, many3, out2, list2, (decide (e2 = after3)), (i2 + 1))) else none)))) fun (J : (Int × Int × (List Int) × (List Int) × Bool × Int × Bool) → Option ((List Int))) =>
              (bif on then
                (Option.bind (idx list i) fun (e : Int) =>
                  (if room out.length ([e] : List Int).length 8 then
                    (J (after2, many2, (out ++ ([e] : List Int)), list, on, i, (decide ((out.length : Int) < many2))))
                    else none))
                else
                (J (after2, many2, out, list, on, i, (decide ((out.length : Int) < many2))))))
            else
            (some out))
          else
          (some out))) :
    Def (iter F N (a, many, ([] : List Int), l, false, 0)) (Page l a many) := by
  let On : Nat → Bool → List Int → Prop := fun n on out => match on with
    | false => a ∉ l.take n ∧ out = []
    | true => ∃ j, j < n ∧ l[j]? = some a ∧ a ∉ l.take j ∧ out = (l.take n).drop (j + 1)
  have done : ∀ n on out, n ≤ l.length → On n on out → (n = l.length ∧ (out.length : Int) ≤ many ∧ 1 ≤ many ∨ ¬ ((out.length : Int) < many) ∧ (out.length : Int) ≤ max many 0) → Page l a many out := fun n on out hn ho hd => by
    cases on with
    | false =>
      obtain ⟨h1, rfl⟩ := ho
      rcases hd with ⟨rfl, _⟩ | ⟨h2, _⟩
      · rw [List.take_length] at h1; exact .none h1
      · exact .few (by simp at h2; omega)
    | true =>
      obtain ⟨j, hj, h1, h2, h3⟩ := ho
      have hol : out.length = n - (j + 1) := by rw [h3]; simp; omega
      by_cases hm : many < 1
      · have : out = [] := List.length_eq_zero_iff.1 (by rcases hd with ⟨_, h, h'⟩ | ⟨_, h⟩ <;> omega)
        rw [this]; exact .few hm
      have e : out = (l.drop (j + 1)).take many.toNat := by
        rcases hd with ⟨rfl, h4, _⟩ | ⟨h4, h5⟩
        · rw [h3, List.take_length, List.take_of_length_le]
          rw [List.length_drop]; omega
        · have hx : out.length = many.toNat := by omega
          rw [h3, List.drop_take, show n - (j + 1) = many.toNat from by omega]
      rw [e]
      exact .at j h1 h2 (by omega)
  refine Def.upto l.length (fun n g => ∃ on out, On n on out ∧ (out.length : Int) ≤ max many 0 ∧ g = (a, many, out, l, on, (n : Int))) ?_ ?_ N 0 _ (Nat.zero_le _) ⟨false, [], ⟨by simp, rfl⟩, by simp; omega, rfl⟩ (by omega)
  · rintro go _ ⟨on, out, ho, hl, rfl⟩
    rw [hF]
    dsimp only
    rw [decide_eq_false (Int.lt_irrefl _), cond_false]
    refine Def.ret (done _ on out (Nat.le_refl _) ho ?_)
    by_cases hm : many < 1
    · exact .inr ⟨by omega, hl⟩
    · exact .inl ⟨rfl, by omega, by omega⟩
  · rintro go n _ hn ⟨on, out, ho, hle, rfl⟩ hgo
    rw [hF] at *
    dsimp only
    rw [decide_eq_true (by omega : (n : Int) < (l.length : Int)), cond_true]
    refine Def.dif (fun e => ?_) (fun e => Def.ret (done n on out (by omega) ho (.inr ⟨e, hle⟩)))
    unfold meet
    dsimp only
    cases on with
    | true =>
      obtain ⟨j, hj, h1, h2, h3⟩ := ho
      have hol : out.length = n - (j + 1) := by rw [h3]; simp; omega
      rw [cond_true, idx_at hn, Option.bind_some]
      refine Def.ite (room_of (by simp only [List.length_cons, List.length_nil]; omega) (by simp only [List.length_cons, List.length_nil]; omega)) ?_
      rw [cond_true]
      refine Def.ite (fits_nat (n := n) (by omega)) (hgo _ ⟨true, out ++ [l[n]], ⟨j, by omega, h1, h2, ?_⟩, by simp; omega, by rw [cast_succ']⟩)
      rw [List.take_succ_eq_append_getElem hn, List.drop_append_of_le_length (by simp; omega), h3]
    | false =>
      obtain ⟨h1, rfl⟩ := ho
      rw [cond_false, cond_false, idx_at hn, Option.bind_some]
      refine Def.ite (fits_nat (n := n) (by omega)) (hgo _ ⟨decide (l[n] = a), [], ?_, hle, by rw [cast_succ']⟩)
      by_cases ea : l[n] = a
      · rw [decide_eq_true ea]
        exact ⟨n, by omega, by rw [List.getElem?_eq_getElem hn, ea], h1, by simp⟩
      · rw [decide_eq_false ea]
        exact ⟨not_take_succ hn h1 (fun e => ea e.symm), rfl⟩
theorem implPage_def (N : Nat) (xs : List EDoc) (ks : List EKey) (a many : Int) (l : List Int) (h1 : i_SortOf_m N xs ks = some l) (h : l.length < N) (hl : l.length ≤ 1048576) (hN : N ≤ 1099511627776) : Def (i_SortPage_m N xs ks a many) (Page l a many) := by
  unfold i_SortPage_m
  rw [h1, Option.bind_some]
  exact implPage_tail N l a many h hl hN
theorem specPage_def (N : Nat) (xs : List EDoc) (ks : List EKey) (a many : Int) (l : List Int) (h1 : s_SortOf_m N xs ks = some l) (h : l.length < N) (hl : l.length ≤ 1048576) (hN : N ≤ 1099511627776) : Def (s_SortPage_m N xs ks a many) (Page l a many) := by
  unfold s_SortPage_m
  rw [h1, Option.bind_some]
  exact specPage_tail N l a many h hl hN _ rfl
theorem page_same (N : Nat) (xs : List EDoc) (ks : List EKey) (a many : Int) (l : List Int) (h1 : i_SortOf_m N xs ks = some l) (h2 : s_SortOf_m N xs ks = some l) (h : l.length < N) (hl : l.length ≤ 1048576) (hN : N ≤ 1099511627776) :
    ∃ r, i_SortPage_m N xs ks a many = some r ∧ s_SortPage_m N xs ks a many = some r ∧ Page l a many r := by
  obtain ⟨r, g1, p1⟩ := implPage_def N xs ks a many l h1 h hl hN
  obtain ⟨r', g2, p2⟩ := specPage_def N xs ks a many l h2 h hl hN
  exact ⟨r, g1, by rw [g2, p1.same p2], p1⟩
theorem drawPage_def (N : Nat) {code : List Int} (hb : Bs code) (hN : 20 ≤ N) : Def (s_DrawSortPage_m N code) fun r => r.1.length ≤ 7 ∧ (∀ x, x ∈ r.1 → okD Sm TDoc x ∧ shortN x.2.2) ∧ okD Sm (.sl TKey) r.2.1 ∧ (0 ≤ r.2.2.1 ∧ r.2.2.1 ≤ 100) ∧ (0 ≤ r.2.2.2 ∧ r.2.2.2 ≤ 100) := by
  unfold s_DrawSortPage_m
  refine Def.bind (open_def N hb) fun r h0 => ?_
  refine Def.bind (anyDocs_def N h0 (by omega) hN) fun r2 ⟨⟨l2, o2⟩, h2⟩ => ?_
  refine Def.bind (keys_def2 N h2 (by omega) hN) fun r3 ⟨o3, h3⟩ => ?_
  refine Def.bind (pick_def N 10 h3 (by omega)) fun r4 ⟨p0, p1, _, h4⟩ => ?_
  refine Def.bind (pick_def N 5 h4 (by omega)) fun r5 ⟨q0, q1, _, h5⟩ => ?_
  have p1 := p1 (by omega)
  have q1 := q1 (by omega)
  exact Def.ret ⟨l2, o2, o3, ⟨p0, by dsimp only; omega⟩, q0, by dsimp only; omega⟩
theorem fnSortPage_law0 (N : Nat) (hM : Sm < N) (hN : N ≤ 1099511627776) (code : List Int) (hb : Bs code) : l_FnSortPage_m N code = some true := by
  have hM' : 1048576 < N := hM
  refine Def.get ?_
  unfold l_FnSortPage_m
  refine Def.dif (fun _ => Def.ret rfl) (fun _ => ?_)
  refine Def.bind (drawPage_def N hb (by omega)) fun r ⟨hl, ho', hk, ha, hm⟩ => ?_
  obtain ⟨xs, ks, after, many⟩ := r
  dsimp only at hl ho' hk ha hm ⊢
  have ho : ∀ x, x ∈ xs → okD Sm TDoc x := fun x hx => (ho' x hx).1
  obtain ⟨l, e1, e2, hs⟩ := sort_same N hM hN xs ks ho (by omega) hk
  have hll : l.length ≤ 7 ∧ l.Nodup := by
    rcases hs with ⟨_, rfl⟩ | ⟨hok, ys, hp, _, rfl⟩
    · simp
    · rw [List.length_map, hp.length_eq]
      simp only [Bool.and_eq_true] at hok
      exact ⟨hl, ((okDocs_docs ho hok.1).perm hp).one⟩
  obtain ⟨p, g1, g2, hp⟩ := page_same N xs ks after many l e1 e2 (by omega) (by omega) hN
  have hpl : p.length ≤ 7 := by
    rcases hp with h | h | ⟨j, hj, hb, hm⟩
    · simp
    · simp
    · simp only [List.length_take, List.length_drop]; omega
  have e3 : l_foInts_m N p p = some true := (foInts_spec N p p (by omega) hN).trans (by rw [decide_eq_true rfl])
  rw [g1, Option.bind_some, g2, Option.bind_some, e3, Option.bind_some, Bool.not_true, cond_false]
  refine Def.dif (fun _ => by rw [Option.bind_some, e3, Option.bind_some]; exact Def.ret rfl) (fun h0 => ?_)
  rw [e1, Option.bind_some]
  rcases hp with h | h | ⟨j, hj, hbf, hm1⟩
  · exact absurd rfl h0
  · exact absurd rfl h0
  have hjl : j < l.length := (List.getElem?_eq_some_iff.1 hj).1
  have hja : l[j] = after := by rw [List.getElem?_eq_getElem hjl] at hj; exact Option.some.inj hj
  refine Def.upto l.length (fun n g => g = (after, many, (l.drop (j + 1)).take many.toNat, l, (if j < n then (j : Int) else -1), (n : Int))) ?_ ?_ N 0 _ (Nat.zero_le _) rfl (by omega)
  · rintro go _ rfl
    dsimp only
    rw [decide_eq_false (Int.lt_irrefl _), cond_false, if_pos hjl]
    refine Def.ite (by unfold fits; omega) (Def.ite (by unfold fits; omega) ?_)
    have fin : ∀ e : Int, (j : Int) + 1 ≤ e → e ≤ l.length → (l.take e.toNat).drop (j + 1) = (l.drop (j + 1)).take many.toNat →
        Def (bif (decide ((0 : Int) ≤ (j : Int))) then
                                  (if fits ((j : Int) + 1) then (Option.bind (cut l ((j : Int) + 1) e) fun (y : List Int) =>
                                      (Option.bind (l_foInts_m N ((l.drop (j + 1)).take many.toNat) y) fun (r10 : Bool) =>
                                        (some r10))) else none)
                                  else
                                  (some false)) fun r => r = true := fun e h1 h2 h3 => by
      rw [decide_eq_true (by omega : (0 : Int) ≤ (j : Int)), cond_true]
      refine Def.ite (fits_nat (n := j) (by omega)) (Def.cut (by omega) h1 h2 ?_)
      have c : (l.take e.toNat).drop (((j : Int) + 1)).toNat = (l.drop (j + 1)).take many.toNat := by
        rw [show ((j : Int) + 1).toNat = j + 1 from by omega]; exact h3
      rw [c, e3, Option.bind_some]
      exact Def.ret rfl
    unfold meet
    dsimp only
    refine Def.dif (fun e => ?_) (fun e => ?_)
    · refine fin _ (by omega) (Int.le_refl _) ?_
      rw [Int.toNat_natCast, List.take_length, List.take_of_length_le (by rw [List.length_drop]; omega)]
    · refine fin _ (by omega) (by omega) ?_
      rw [show ((j : Int) + 1 + many).toNat = (j + 1) + many.toNat from by omega, List.drop_take, Nat.add_sub_cancel_left]
  · rintro go n _ hn rfl hgo
    dsimp only
    rw [decide_eq_true (by omega : (n : Int) < (l.length : Int)), cond_true, idx_at hn, Option.bind_some]
    refine Def.dif (fun e => ?_) (fun e => ?_)
    · have hnj : n = j := by
        have h1 := List.pairwise_iff_getElem.1 hll.2
        rcases Nat.lt_trichotomy n j with h | h | h
        · exact absurd (e.trans hja.symm) (h1 n j hn hjl h)
        · exact h
        · exact absurd (hja.trans e.symm) (h1 j n hjl hn h)
      subst hnj
      refine Def.ite (fits_nat (n := n) (by omega)) (hgo _ ?_)
      rw [if_pos (by omega), cast_succ']
    · have hnj : n ≠ j := by
        rintro rfl
        exact e hja
      refine Def.ite (fits_nat (n := n) (by omega)) (hgo _ ?_)
      rw [cast_succ']
      by_cases hlt : j < n
      · rw [if_pos hlt, if_pos (by omega)]
      · rw [if_neg hlt, if_neg (by omega)]
theorem fnSortPage_law (code : List Int) (o0 : okD BigN (.sl (.int .u8)) code) : l_FnSortPage_m 1048700 code = some true := fnSortPage_law0 1048700 (by decide) (by decide) code (bytes_ok o0)
end Go.Proofs.Ytjggioppicabbaa

