/- The law FnSortOf, in plain Lean. -/
import Derived.Test.YtjggioppicabbaaS8
set_option linter.unusedVariables false
set_option linter.unusedSimpArgs false
namespace Go.Proofs.Ytjggioppicabbaa
open Go.RowKit
theorem foIn_def (N : Nat) (l : List Int) (n : Int) (h : l.length < N) (hN : N ≤ 1099511627776) (hn : n ∈ l) : Def (l_foIn_m N l n) fun r => r = true := by
  unfold l_foIn_m
  refine Def.upto l.length (fun i g => n ∈ l.drop i ∧ g = (l, n, (i : Int))) ?_ ?_ N 0 _ (Nat.zero_le _) ⟨hn, rfl⟩ (by omega)
  · rintro go _ ⟨hm, rfl⟩
    rw [List.drop_length] at hm; cases hm
  · rintro go i _ hi ⟨hm, rfl⟩ hgo
    dsimp only
    rw [decide_eq_true (by omega : (i : Int) < (l.length : Int)), cond_true, idx_at hi, Option.bind_some]
    refine Def.dif (fun _ => Def.ret rfl) (fun e => ?_)
    rw [List.drop_eq_getElem_cons hi, List.mem_cons] at hm
    exact Def.ite (fits_nat (n := i) (by omega)) (hgo _ ⟨hm.resolve_left fun h => e h.symm, by rw [cast_succ']⟩)
theorem foFind_def (N : Nat) (xs : List EDoc) (x : EDoc) (h : xs.length < N) (hN : N ≤ 1099511627776) (hx : x ∈ xs) (hnd : (xs.map (·.1)).Nodup) : Def (l_foFind_m N xs x.1) fun r => r = x := by
  unfold l_foFind_m
  refine Def.upto xs.length (fun i g => x ∈ xs.drop i ∧ g = (xs, x.1, (i : Int), 0)) ?_ ?_ N 0 _ (Nat.zero_le _) ⟨hx, rfl⟩ (by omega)
  · rintro go _ ⟨hm, rfl⟩
    rw [List.drop_length] at hm; cases hm
  · rintro go i _ hi ⟨hm, rfl⟩ hgo
    dsimp only
    rw [decide_eq_true (by omega : (i : Int) < (xs.length : Int)), cond_true, idx_at hi, Option.bind_some, Option.bind_some]
    rw [List.drop_eq_getElem_cons hi, List.mem_cons] at hm
    refine Def.dif (fun e => Def.ret ?_) (fun e => ?_)
    · rcases hm with hm | hm
      · exact hm.symm
      · rw [← List.take_append_drop i xs, List.drop_eq_getElem_cons hi, List.map_append, List.map_cons] at hnd
        have h2 := (List.nodup_cons.1 (List.nodup_append.1 hnd).2.1).1
        exact absurd (by rw [e]; exact List.mem_map_of_mem hm) h2
    · exact Def.ite (fits_nat (n := i) (by omega)) (hgo _ ⟨hm.resolve_left fun h => e (by rw [← h]), by rw [cast_succ']⟩)
theorem fnSortOf_law0 (N : Nat) (hM : Sm < N) (hN : N ≤ 1099511627776) (code : List Int) (hb : Bs code) : l_FnSortOf_m N code = some true := by
  have hM' : 1048576 < N := hM
  refine Def.get ?_
  unfold l_FnSortOf_m
  refine Def.dif (fun _ => Def.ret rfl) (fun _ => ?_)
  refine Def.bind (drawSort_def N hb (by omega)) fun r ⟨hl, ho, hk⟩ => ?_
  obtain ⟨xs, ks⟩ := r
  dsimp only at hl ho hk ⊢
  have ho : ∀ x, x ∈ xs → okD Sm TDoc x := fun x hx => (ho x hx).1
  obtain ⟨l, e1, e2, hs⟩ := sort_same N hM hN xs ks ho (by omega) hk
  have hll : l.length ≤ 7 := by
    rcases hs with ⟨_, rfl⟩ | ⟨_, ys, hp, _, rfl⟩
    · simp
    · rw [List.length_map, hp.length_eq]; exact hl
  have e3 : l_foInts_m N l l = some true := (foInts_spec N l l (by omega) hN).trans (by rw [decide_eq_true rfl])
  rw [e1, Option.bind_some, e2, Option.bind_some, e3, Option.bind_some, Bool.not_true, cond_false]
  refine Def.dif (fun _ => by rw [Option.bind_some, e3, Option.bind_some]; exact Def.ret rfl) (fun h0 => ?_)
  rcases hs with ⟨_, rfl⟩ | ⟨hok, ys, hp, ha, rfl⟩
  · exact absurd rfl h0
  simp only [Bool.and_eq_true] at hok
  have hD := okDocs_docs ho hok.1
  have hyl := hp.length_eq
  refine Def.upto xs.length (fun n g => g = (xs, ks, ys.map (·.1), (n : Int))) ?_ ?_ N 0 _ (Nat.zero_le _) rfl (by omega)
  · rintro go _ rfl
    dsimp only
    rw [decide_eq_false (Int.lt_irrefl _), cond_false]
    have hy0 : 1 ≤ ys.length := by
      rw [List.length_map] at h0; omega
    refine Def.upto ys.length (fun n g => 1 ≤ n ∧ g = (xs, ks, ys.map (·.1), (n : Int))) ?_ ?_ N 1 _ hy0 ⟨Nat.le_refl _, rfl⟩ (by omega)
    · rintro go2 _ ⟨_, rfl⟩
      dsimp only
      rw [List.length_map, decide_eq_false (Int.lt_irrefl _), cond_false]
      exact Def.ret (decide_eq_true (by omega))
    · rintro go2 n _ hn ⟨hn1, rfl⟩ hgo
      obtain ⟨i, rfl⟩ : ∃ i, n = i + 1 := ⟨n - 1, by omega⟩
      dsimp only
      rw [List.length_map, decide_eq_true (by omega : ((i + 1 : Nat) : Int) < (ys.length : Int)), cond_true]
      refine Def.ite (by unfold fits; omega) ?_
      have m1 : ys[i] ∈ xs := hp.mem_iff.1 (List.getElem_mem (by omega))
      have m2 : ys[i + 1] ∈ xs := hp.mem_iff.1 (List.getElem_mem hn)
      have i1 : idx (ys.map (·.1)) (((i + 1 : Nat) : Int) - 1) = some ys[i].1 := by
        rw [show (((i + 1 : Nat) : Int) - 1) = (i : Int) from by omega, idx_at (by rw [List.length_map]; omega), List.getElem_map]
      have i2 : idx (ys.map (·.1)) ((i + 1 : Nat) : Int) = some ys[i + 1].1 := by
        rw [idx_at (by rw [List.length_map]; omega), List.getElem_map]
      rw [i1, Option.bind_some]
      refine Def.bind (foFind_def N xs ys[i] (by omega) hN m1 hD.one) fun a ha' => ?_
      subst ha'
      rw [i2, Option.bind_some]
      refine Def.bind (foFind_def N xs ys[i + 1] (by omega) hN m2 hD.one) fun b hb' => ?_
      subst hb'
      have o1 := hD.ok _ m1
      have o2 := hD.ok _ m2
      have hlt : lessK ys[i] ys[i + 1] ks = true := List.pairwise_iff_getElem.1 ha i (i + 1) (by omega) hn (by omega)
      rw [implLess_spec N hM hN _ _ ks o1.1 o2.1 hk, Option.bind_some]
      have hsl : sortLess ys[i] ys[i + 1] ks = true := by unfold sortLess; rw [o1.2, o2.2, hok.2, hlt]; rfl
      rw [hsl, Bool.not_true, cond_false]
      exact Def.ite (fits_nat (n := i + 1) (by omega)) (hgo _ ⟨by omega, by rw [cast_succ' (i + 1)]⟩)
  · rintro go n _ hn rfl hgo
    dsimp only
    rw [decide_eq_true (by omega : (n : Int) < (xs.length : Int)), cond_true, idx_at hn, Option.bind_some]
    have hm : xs[n].1 ∈ ys.map (·.1) := List.mem_map_of_mem (hp.mem_iff.2 (List.getElem_mem hn))
    refine Def.bind (foIn_def N _ _ (by rw [List.length_map]; omega) hN hm) fun r9 h9 => ?_
    subst h9
    rw [Bool.not_true, cond_false]
    exact Def.ite (fits_nat (n := n) (by omega)) (hgo _ (by rw [cast_succ']))
theorem fnSortOf_law (code : List Int) (o0 : okD BigN (.sl (.int .u8)) code) : l_FnSortOf_m 1048700 code = some true := fnSortOf_law0 1048700 (by decide) (by decide) code (bytes_ok o0)
end Go.Proofs.Ytjggioppicabbaa
