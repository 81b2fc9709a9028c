/- Plain laws: spec.SortOf, and that both give the same. -/
import Derived.Test.YtjggioppicabbaaS6
set_option linter.unusedVariables false
set_option linter.unusedSimpArgs false
namespace Go.Proofs.Ytjggioppicabbaa
open Go.RowKit
theorem specSort_def (N : Nat) (hM : Sm < N) (hN : N ≤ 1099511627776) (xs : List EDoc) (ks : List EKey) (ho : ∀ x, x ∈ xs → okD Sm TDoc x) (hl : xs.length ≤ 1048576) (hk : okD Sm (.sl TKey) ks) :
    Def (s_SortOf_m N xs ks) fun r => ((okDocs xs && okKeys ks) = false ∧ r = []) ∨ ((okDocs xs && okKeys ks) = true ∧ ∃ ys, ys.Perm xs ∧ InOrd ks ys ∧ r = ys.map (·.1)) := by
  have hM' : 1048576 < N := hM
  unfold s_SortOf_m
  rw [l6Docs_spec N hM hN xs ho hl, l22Keys_spec N hM hN ks hk, Option.bind_some, Option.bind_some]
  refine Def.bif (fun e => Def.ret (.inl ⟨?_, rfl⟩)) (fun e => ?_)
  · rw [Bool.not_eq_true'] at e; rw [e]; rfl
  have e1 : okDocs xs = true := by simpa using e
  refine Def.bif (fun e => Def.ret (.inl ⟨?_, rfl⟩)) (fun e => ?_)
  · rw [Bool.not_eq_true'] at e; rw [e, Bool.and_false]
  have e2 : okKeys ks = true := by simpa using e
  have hD := okDocs_docs ho e1
  refine Def.upto xs.length (fun n g => ∃ l, l.Perm (xs.take n) ∧ InOrd ks l ∧ g = (xs, ks, l, (n : Int))) ?_ ?_ N 0 _ (Nat.zero_le _) ⟨[], by simp, List.Pairwise.nil, rfl⟩ (by omega)
  · rintro go _ ⟨l, hp, ha, rfl⟩
    rw [List.take_length] at hp
    have hll := hp.length_eq
    dsimp only
    rw [decide_eq_false (Int.lt_irrefl _), cond_false]
    refine Def.upto l.length (fun n g => g = (l, (l.take n).map (·.1), (n : Int))) ?_ ?_ N 0 _ (Nat.zero_le _) rfl (by omega)
    · rintro go3 _ rfl
      dsimp only
      rw [decide_eq_false (Int.lt_irrefl _), cond_false, List.take_length]
      exact Def.ret (.inr ⟨by rw [e1, e2]; rfl, l, hp, ha, rfl⟩)
    · rintro go3 n _ hn rfl hgo
      dsimp only
      rw [decide_eq_true (by omega : (n : Int) < (l.length : Int)), cond_true, idx_at hn, Option.bind_some]
      refine Def.ite (room_of (by simp; omega) (by simp; omega)) (Def.ite (fits_nat (n := n) (by omega)) (hgo _ ?_))
      rw [List.take_succ_eq_append_getElem hn, List.map_append, cast_succ']
      rfl
  · rintro go n _ hn ⟨l, hp, ha, rfl⟩ hgo
    dsimp only
    have hll := hp.length_eq
    rw [List.length_take] at hll
    rw [decide_eq_true (by omega : (n : Int) < (xs.length : Int)), cond_true]
    have hnx : xs[n] ∈ xs := List.getElem_mem hn
    have ox := hD.ok _ hnx
    have hin : ∀ y, y ∈ l → y ∈ xs ∧ y.1 ≠ xs[n].1 := fun y hy => by
      have hy' := hp.mem_iff.1 hy
      refine ⟨List.mem_of_mem_take hy', fun e => ?_⟩
      have hnd := hD.one
      rw [← List.take_append_drop n xs, List.drop_eq_getElem_cons hn, List.map_append, List.map_cons] at hnd
      exact (List.nodup_append.1 hnd).2.2 y.1 (List.mem_map_of_mem hy') xs[n].1 (by simp) e
    have put : ∀ (k : Nat), k ≤ l.length → (∀ y, y ∈ l.take k → lessK y xs[n] ks = true) → (∀ y, y ∈ l.drop k → lessK xs[n] y ks = true) →
        Def (Option.bind (cut l 0 (k : Int)) fun y => if room ([] : List EDoc).length y.length 56 then Option.bind (idx xs (n : Int)) fun e3 => if room (([] : List EDoc) ++ y).length ([e3] : List EDoc).length 56 then
          Option.bind (cut l (k : Int) (l.length : Int)) fun y2 => if room ((([] : List EDoc) ++ y) ++ ([e3] : List EDoc)).length y2.length 56 then (if fits ((n : Int) + 1) then go (xs, ks, (((([] : List EDoc) ++ y) ++ ([e3] : List EDoc)) ++ y2), (n : Int) + 1) else none) else none else none else none)
          fun r => ((okDocs xs && okKeys ks) = false ∧ r = []) ∨ ((okDocs xs && okKeys ks) = true ∧ ∃ ys, ys.Perm xs ∧ InOrd ks ys ∧ r = ys.map (·.1)) := fun k hkl h1 h2 => by
      refine Def.cut (by omega) (by omega) (by omega) ?_
      have c1 : (l.take ((k : Int)).toNat).drop ((0 : Int)).toNat = l.take k := rfl
      rw [c1]
      refine Def.ite (room_of (by simp; omega) (by simp; omega)) ?_
      rw [idx_at hn, Option.bind_some]
      refine Def.ite (room_of (by simp; omega) (by simp; omega)) ?_
      refine Def.cut (by omega) (by omega) (by omega) ?_
      have c2 : (l.take ((l.length : Int)).toNat).drop ((k : Int)).toNat = l.drop k := by show (l.take l.length).drop k = l.drop k; rw [List.take_length]
      rw [c2]
      refine Def.ite (room_of (by simp; omega) (by simp; omega)) (Def.ite (fits_nat (n := n) (by omega)) (hgo _ ⟨_, ?_, ?_, by rw [cast_succ']⟩))
      · rw [List.nil_append, List.take_succ_eq_append_getElem hn, List.append_assoc]
        refine (List.Perm.append_left _ (List.perm_append_comm)).trans ?_
        rw [← List.append_assoc, List.take_append_drop]
        exact List.Perm.append_right _ hp
      · unfold InOrd at ha ⊢
        rw [List.nil_append, List.append_assoc, List.singleton_append]
        rw [← List.take_append_drop k l, List.pairwise_append] at ha
        rw [List.pairwise_append]
        refine ⟨ha.1, List.pairwise_cons.2 ⟨h2, ha.2.1⟩, fun a ha' b hb => ?_⟩
        rcases List.mem_cons.1 hb with rfl | hb
        · exact h1 a ha'
        · exact ha.2.2 a ha' b hb
    refine Def.upto l.length (fun k g => (∀ y, y ∈ l.take k → lessK y xs[n] ks = true) ∧ g = (xs, ks, l, (n : Int), (k : Int))) ?_ ?_ N 0 _ (Nat.zero_le _) ⟨fun y hy => by simp at hy, rfl⟩ (by omega)
    · rintro go2 _ ⟨h1, rfl⟩
      dsimp only
      rw [decide_eq_false (Int.lt_irrefl _), cond_false]
      exact put l.length (Nat.le_refl _) h1 (fun y hy => by rw [List.drop_length] at hy; cases hy)
    · rintro go2 k _ hkl ⟨h1, rfl⟩ hgo2
      dsimp only
      rw [decide_eq_true (by omega : (k : Int) < (l.length : Int)), cond_true, idx_at hkl, Option.bind_some, idx_at hn, Option.bind_some]
      have hy := hin _ (List.getElem_mem hkl)
      have oy := hD.ok _ hy.1
      refine Def.bind (l22Less_spec N hM hN l[k] xs[n] ks oy.1 ox.1 hk oy.2 ox.2) fun r hr => ?_
      subst hr
      refine Def.bif (fun er => ?_) (fun er => ?_)
      · refine Def.ite (fits_nat (n := k) (by omega)) (hgo2 _ ⟨fun y hy => ?_, by rw [cast_succ']⟩)
        rw [List.take_succ_eq_append_getElem hkl, List.mem_append, List.mem_singleton] at hy
        rcases hy with hy | rfl
        · exact h1 y hy
        · exact er
      · have hx : lessK xs[n] l[k] ks = true := by
          rcases lessK_total l[k] xs[n] hy.2 ks with h | h
          · rw [er] at h; cases h
          · exact h
        have := put k (by omega) h1 (fun y hy => by
          rw [List.drop_eq_getElem_cons hkl, List.mem_cons] at hy
          rcases hy with rfl | hy
          · exact hx
          · unfold InOrd at ha
            rw [← List.take_append_drop k l, List.pairwise_append, List.drop_eq_getElem_cons hkl, List.pairwise_cons] at ha
            exact lessK_trans _ _ _ ks hx (ha.2.1.1 y hy))
        rw [idx_at hn] at this
        exact this
theorem sort_same (N : Nat) (hM : Sm < N) (hN : N ≤ 1099511627776) (xs : List EDoc) (ks : List EKey) (ho : ∀ x, x ∈ xs → okD Sm TDoc x) (hl : xs.length ≤ 12) (hk : okD Sm (.sl TKey) ks) :
    ∃ r, i_SortOf_m N xs ks = some r ∧ s_SortOf_m N xs ks = some r ∧ (((okDocs xs && okKeys ks) = false ∧ r = []) ∨ ((okDocs xs && okKeys ks) = true ∧ ∃ ys, ys.Perm xs ∧ InOrd ks ys ∧ r = ys.map (·.1))) := by
  obtain ⟨r, h1, h2⟩ := implSort_def N hM hN xs ks ho hl hk
  obtain ⟨r', h3, h4⟩ := specSort_def N hM hN xs ks ho (by omega) hk
  have e : r = r' := by
    rcases h2 with ⟨a, b⟩ | ⟨a, ys, p, o, b⟩ <;> rcases h4 with ⟨c, d⟩ | ⟨c, zs, q, u, d⟩
    · rw [b, d]
    · rw [a] at c; cases c
    · rw [a] at c; cases c
    · rw [b, d, ahead_same (p.trans q.symm) o u]
  subst e
  exact ⟨r, h1, h3, h2⟩
end Go.Proofs.Ytjggioppicabbaa
