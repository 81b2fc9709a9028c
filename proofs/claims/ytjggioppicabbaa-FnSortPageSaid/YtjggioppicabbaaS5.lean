/- Plain laws: up to twelve documents are put in order by inserting. -/
import Derived.Test.YtjggioppicabbaaS4
set_option linter.unusedVariables false
set_option linter.unusedSimpArgs false
namespace Go.Proofs.Ytjggioppicabbaa
open Go.RowKit
/-- Documents that are ok, each with a number of its own. -/
structure Docs (xs : List EDoc) : Prop where
  ok : ∀ x, x ∈ xs → okD Sm TDoc x ∧ okDoc x = true
  one : (xs.map (·.1)).Nodup
theorem Docs.perm {xs ys : List EDoc} (h : Docs xs) (hp : ys.Perm xs) : Docs ys := ⟨fun x hx => h.ok x (hp.mem_iff.1 hx), (hp.map _).nodup_iff.2 h.one⟩
def InOrd (ks : List EKey) (xs : List EDoc) : Prop := xs.Pairwise fun a b => lessK a b ks = true
theorem ahead_same {ks : List EKey} {xs ys : List EDoc} (h : xs.Perm ys) (hx : InOrd ks xs) (hy : InOrd ks ys) : xs = ys := by
  refine List.Perm.eq_of_pairwise (le := fun a b => lessK a b ks = true) (fun a b _ _ h1 h2 => ?_) hx hy h
  rw [lessK_asym a b ks h1] at h2; cases h2
theorem cmp_def (N : Nat) (hM : Sm < N) (hN : N ≤ 1099511627776) (a b : EDoc) (ks : List EKey) (ha : okD Sm TDoc a) (hb : okD Sm TDoc b) (hk : okD Sm (.sl TKey) ks) (oa : okDoc a = true) (ob : okDoc b = true) :
    Def (i_SortOf_1_m N a.1 a.2.1 a.2.2 b.1 b.2.1 b.2.2 ks) fun r => decide (r < 0) = lessK a b ks :=
  Def.bind (docOrder_spec N hM hN a b ks ha hb hk oa ob) fun r hr => Def.ret hr
theorem swap_at {α : Type} (L M : List α) (y x : α) : ((L ++ y :: x :: M).set (L.length + 1) y).set L.length x = L ++ x :: y :: M := by
  rw [List.set_append, if_neg (by omega), show L.length + 1 - L.length = 1 from by omega, List.set_append, if_neg (by omega), Nat.sub_self]
  rfl
theorem insert_def (N : Nat) (hM : Sm < N) (hN : N ≤ 1099511627776) (data : List EDoc) (ks : List EKey) (hd : Docs data) (hk : okD Sm (.sl TKey) ks) (hl : data.length ≤ 1000) :
    Def (k_slices_insertionSortCmpFunc_424_m N data 0 (data.length : Int) ks) fun r => r.Perm data ∧ InOrd ks r := by
  have hM' : 1048576 < N := hM
  unfold k_slices_insertionSortCmpFunc_424_m
  refine Def.ite (by unfold fits; omega) ?_
  by_cases h0 : data.length = 0
  · obtain rfl : data = [] := List.length_eq_zero_iff.1 h0
    obtain ⟨M, rfl⟩ : ∃ M, N = M + 1 := ⟨N - 1, by omega⟩
    exact Def.ret ⟨List.Perm.refl _, List.Pairwise.nil⟩
  refine Def.upto data.length (fun n g => ∃ d, d.Perm data ∧ InOrd ks (d.take n) ∧ g = (d, 0, (data.length : Int), ks, (n : Int))) ?_ ?_ N 1 _ (by omega) ⟨data, List.Perm.refl _, ?_, rfl⟩ (by omega)
  · rintro go _ ⟨d, hp, ha, rfl⟩
    dsimp only
    rw [decide_eq_false (Int.lt_irrefl _), cond_false]
    rw [← hp.length_eq, List.take_length] at ha
    exact Def.ret ⟨hp, ha⟩
  · rintro go n _ hn ⟨d, hp, ha, rfl⟩ hgo
    dsimp only
    rw [decide_eq_true (by omega : (n : Int) < (data.length : Int)), cond_true]
    have hdl := hp.length_eq
    have hnd : n < d.length := by omega
    refine Def.iter (fun g => ∃ L M R x, (L ++ x :: M ++ R).Perm data ∧ L.length + M.length = n ∧ InOrd ks (L ++ M) ∧ (∀ m, m ∈ M → lessK x m ks = true) ∧ g = (L ++ x :: M ++ R, 0, (data.length : Int), ks, (n : Int), (L.length : Int))) (fun g => g.2.2.2.2.2.toNat) ?_ N _ ⟨d.take n, [], d.drop (n + 1), d[n], ?_, by simp; omega, by rw [List.append_nil]; exact ha, (fun m hm => by cases hm), ?_⟩ (by show ((n : Int)).toNat < N; omega)
    · rintro go2 _ ⟨L, M, R, x, hq, hlm, hA, hx, rfl⟩ hgo2
      dsimp only
      have hD := hd.perm hq
      have hql := hq.length_eq
      have stop : (∀ y, L.getLast? = some y → lessK y x ks = true) → Def (if fits ((n : Int) + 1) then go (L ++ x :: M ++ R, 0, (data.length : Int), ks, (n : Int) + 1) else none) fun r => r.Perm data ∧ InOrd ks r := fun hy => by
        refine Def.ite (fits_nat (n := n) (by omega)) (hgo _ ⟨L ++ x :: M ++ R, hq, ?_, by rw [cast_succ']⟩)
        have e : (L ++ x :: M ++ R).take (n + 1) = L ++ x :: M := by
          rw [List.take_append_of_le_length (by simp; omega), List.take_of_length_le (by simp; omega)]
        rw [e]
        unfold InOrd at hA ⊢
        rw [List.pairwise_append] at hA ⊢
        refine ⟨hA.1, List.pairwise_cons.2 ⟨hx, hA.2.1⟩, fun a ha b hb => ?_⟩
        rcases List.mem_cons.1 hb with rfl | hb
        · rcases List.eq_nil_or_concat L with h | ⟨L', y, h⟩
          · rw [h] at ha; cases ha
          · subst h
            have hyx := hy y (by simp)
            rw [List.concat_eq_append] at ha hA
            rcases List.mem_append.1 ha with ha | ha
            · have h1 := (List.pairwise_append.1 hA.1).2.2 a ha y (by simp)
              exact lessK_trans a y b ks h1 hyx
            · rw [List.mem_singleton.1 ha]; exact hyx
        · exact hA.2.2 a ha b hb
      rcases List.eq_nil_or_concat L with h | ⟨L', y, h⟩
      · subst h
        rw [decide_eq_false (by simp), cond_false]
        exact stop fun y hy => by cases hy
      · subst h
        have hL : (L'.concat y).length = L'.length + 1 := by simp
        have ed : L'.concat y ++ x :: M ++ R = L' ++ y :: x :: (M ++ R) := by simp
        have hlen : (L' ++ y :: x :: (M ++ R)).length = data.length := by rw [← ed]; exact hql
        have hlen2 := hlen
        simp only [List.length_append, List.length_cons] at hlen2
        rw [hL]
        rw [ed] at hq hD stop ⊢
        have g1 : (L' ++ y :: x :: (M ++ R))[L'.length + 1]? = some x := by rw [List.getElem?_append_right (by omega)]; simp
        have g2 : (L' ++ y :: x :: (M ++ R))[L'.length]? = some y := by rw [List.getElem?_append_right (by omega)]; simp
        have t1 : (((L'.length + 1 : Nat) : Int)).toNat = L'.length + 1 := by omega
        have t2 : (((L'.length + 1 : Nat) : Int) - 1).toNat = L'.length := by omega
        have ox := hD.ok x (by simp)
        have oy := hD.ok y (by simp)
        rw [decide_eq_true (by omega : (0 : Int) < ((L'.length + 1 : Nat) : Int)), cond_true]
        refine Def.ite ⟨by omega, by rw [hlen]; omega⟩ ?_
        rw [t1, g1, Option.bind_some]
        refine Def.ite (by unfold fits; omega) (Def.ite ⟨by omega, by rw [hlen]; omega⟩ ?_)
        rw [t2, g2, Option.bind_some]
        refine Def.bind (cmp_def N hM hN x y ks ox.1 oy.1 hk ox.2 oy.2) fun r hr => ?_
        refine Def.bif (fun er => ?_) (fun er => ?_)
        · rw [hr] at er
          refine Def.ite (by unfold fits; omega) (Def.ite (by unfold fits; omega) (Def.ite ⟨by omega, by rw [hlen]; omega⟩ ?_))
          rw [Option.bind_some]
          refine Def.ite ⟨by omega, by rw [hlen]; omega⟩ ?_
          rw [Option.bind_some]
          refine Def.ite ⟨by omega, by rw [hlen]; omega⟩ ?_
          rw [Option.bind_some]
          refine Def.ite ⟨by omega, by rw [List.length_set, hlen]; omega⟩ ?_
          have g3 : ((L' ++ y :: x :: (M ++ R)).set (L'.length + 1) y)[L'.length]? = some y := by rw [List.getElem?_set_ne (by omega)]; exact g2
          rw [g3, Option.bind_some]
          refine Def.ite (by unfold fits; omega) (hgo2 _ ⟨L', y :: M, R, x, ?_, by simp only [List.length_cons]; simp at hlm; omega, ?_, fun m hm => ?_, ?_⟩ ?_)
          · refine List.Perm.trans ?_ hq
            simp only [List.append_assoc, List.cons_append]
            exact List.Perm.append_left _ (List.Perm.swap _ _ _)
          · simpa using hA
          · rcases List.mem_cons.1 hm with rfl | hm
            · exact er
            · exact hx m hm
          · rw [swap_at, show (((L'.length + 1 : Nat) : Int) - 1) = (L'.length : Int) from by omega]
            simp
          · show (((L'.length + 1 : Nat) : Int) - 1).toNat < (((L'.concat y).length : Nat) : Int).toNat
            rw [hL]; omega
        · rw [hr] at er
          refine stop fun z hz => ?_
          obtain rfl : y = z := by simpa using hz
          have hne : x.1 ≠ y.1 := fun e => by
            have := hD.one
            simp only [List.map_append, List.map_cons] at this
            have h2 := (List.nodup_append.1 this).2.1
            rw [List.nodup_cons] at h2
            exact h2.1 (by rw [e]; simp)
          rcases lessK_total x y hne ks with h | h
          · rw [er] at h; cases h
          · exact h
    · have e : d.take n ++ d[n] :: [] ++ d.drop (n + 1) = d := by
        rw [List.append_assoc, List.singleton_append, ← List.drop_eq_getElem_cons hnd, List.take_append_drop]
      rw [e]; exact hp
    · have e : d.take n ++ d[n] :: [] ++ d.drop (n + 1) = d := by
        rw [List.append_assoc, List.singleton_append, ← List.drop_eq_getElem_cons hnd, List.take_append_drop]
      rw [e]
      simp
      omega
  · unfold InOrd
    match data, h0 with
    | x :: xs, _ => simp
end Go.Proofs.Ytjggioppicabbaa
