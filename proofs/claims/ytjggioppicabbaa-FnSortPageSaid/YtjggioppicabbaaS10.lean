/- The law FnSortNone, in plain Lean. -/
import Derived.Test.YtjggioppicabbaaS9
set_option linter.unusedVariables false
set_option linter.unusedSimpArgs false
namespace Go.Proofs.Ytjggioppicabbaa
open Go.RowKit
theorem okDocs_asc {xs : List EDoc} (h : okDocs xs = true) : InOrd [] xs := by
  unfold okDocs allN at h
  simp only [Bool.and_eq_true, List.all_eq_true, List.mem_range'_1, Nat.zero_add, Nat.zero_le, true_and] at h
  have key : ∀ n (hn : n < xs.length), n ≠ 0 → (dAt xs (n - 1)).1 < xs[n].1 := fun n hn h0 => by
    have := h.1 n hn
    unfold okDc at this
    rw [← dAt_eq hn] at this
    simp only [Bool.and_eq_true, Bool.or_eq_true, decide_eq_true_eq, Bool.not_eq_true', decide_eq_false_iff_not] at this
    rcases this.2 with h | h <;> omega
  have lt : ∀ j i (hj : j < xs.length) (hi : i < j), (xs[i]'(by omega)).1 < xs[j].1 := fun j => by
    induction j with
    | zero => intro i hj hi; omega
    | succ j ih =>
      intro i hj hi
      have h1 := key (j + 1) hj (by omega)
      rw [Nat.add_sub_cancel, ← dAt_eq (by omega)] at h1
      by_cases e : i = j
      · subst e; exact h1
      · have := ih i (by omega) (by omega)
        omega
  unfold InOrd
  rw [List.pairwise_iff_getElem]
  intro i j hi hj hij
  unfold lessK
  exact decide_eq_true (lt j i hj hij)
def nobody : List UInt8 := [110, 111, 98, 111, 100, 121]
theorem numFrom_short : ∀ ats : List EAttr, shortN ats → numFrom nobody ats = -1
  | [], _ => rfl
  | x :: xs, h => by
    rw [numFrom, if_neg (fun e => ?_)]
    · exact numFrom_short xs fun y hy => h y (List.mem_cons_of_mem _ hy)
    · have := h x (List.mem_cons_self ..)
      rw [e] at this
      exact absurd this (by decide)
theorem lessK_nobody (a b : EDoc) (ha : shortN a.2.2) (hb : shortN b.2.2) : lessK a b [(nobody, true)] = lessK a b [] := by
  show (if numFrom nobody a.2.2 = numFrom nobody b.2.2 then lessK a b [] else _) = _
  rw [numFrom_short _ ha, numFrom_short _ hb, if_pos rfl]
theorem fnSortNone_law0 (N : Nat) (hM : Sm < N) (hN : N ≤ 1099511627776) (code : List Int) (hb : Bs code) : l_FnSortNone_m N code = some true := by
  have hM' : 1048576 < N := hM
  refine Def.get ?_
  unfold l_FnSortNone_m
  refine Def.dif (fun _ => Def.ret rfl) (fun _ => ?_)
  refine Def.bind (drawSort_def N hb (by omega)) fun r ⟨hl, ho', hk⟩ => ?_
  obtain ⟨xs, ks⟩ := r
  dsimp only at hl ho' hk ⊢
  have ho : ∀ x, x ∈ xs → okD Sm TDoc x := fun x hx => (ho' x hx).1
  obtain ⟨l, e1, e2, hs⟩ := sort_same N hM hN xs ks ho (by omega) hk
  have hll : l.length ≤ 7 := by
    rcases hs with ⟨_, rfl⟩ | ⟨_, ys, hp, _, rfl⟩
    · simp
    · rw [List.length_map, hp.length_eq]; exact hl
  have e3 : l_foInts_m N l l = some true := (foInts_spec N l l (by omega) hN).trans (by rw [decide_eq_true rfl])
  rw [e1, Option.bind_some, e2, Option.bind_some, e3, Option.bind_some, Bool.not_true, cond_false, docsOk_spec N hM hN xs ho (by omega), Option.bind_some]
  refine Def.bif (fun _ => by rw [Option.bind_some, e3, Option.bind_some]; exact Def.ret rfl) (fun h0 => ?_)
  have hok : okDocs xs = true := by simpa using h0
  have hx := okDocs_asc hok
  have hself : l_foInts_m N (xs.map (·.1)) (xs.map (·.1)) = some true := (foInts_spec N _ _ (by rw [List.length_map]; omega) hN).trans (by rw [decide_eq_true rfl])
  have one : ∀ ks' : List EKey, okD Sm (.sl TKey) ks' → okKeys ks' = true → InOrd ks' xs → i_SortOf_m N xs ks' = some (xs.map (·.1)) := fun ks' hk' hok' hin => by
    obtain ⟨l', g1, _, hs'⟩ := sort_same N hM hN xs ks' ho (by omega) hk'
    rcases hs' with ⟨h, _⟩ | ⟨_, ys, hp, hy, rfl⟩
    · rw [hok, hok'] at h; cases h
    · rw [g1, ahead_same hp hy hin]
  have i1 := one [] ⟨by show 0 ≤ 1048576; omega, fun x hx => by cases hx⟩ (by decide) hx
  have i2 := one [(nobody, true)] ⟨by show 1 ≤ 1048576; omega, fun x hx => by rw [List.mem_singleton.1 hx]; exact ⟨by show 6 ≤ 1048576; omega, True.intro⟩⟩ (by decide) (by
    unfold InOrd at hx ⊢
    exact hx.imp_of_mem fun {a b} ha hb h => (lessK_nobody a b (ho' a ha).2 (ho' b hb).2).trans h)
  unfold nobody at i2
  refine Def.upto xs.length (fun n g => g = (xs, (xs.take n).map (·.1), (n : Int))) ?_ ?_ N 0 _ (Nat.zero_le _) rfl (by omega)
  · rintro go _ rfl
    dsimp only
    rw [decide_eq_false (Int.lt_irrefl _), cond_false, List.take_length, i1, Option.bind_some, hself, Option.bind_some, cond_true, i2, Option.bind_some, hself, Option.bind_some]
    exact Def.ret rfl
  · rintro go n _ hn rfl hgo
    dsimp only
    rw [decide_eq_true (by omega : (n : Int) < (xs.length : Int)), cond_true, idx_at hn, Option.bind_some]
    refine Def.ite (room_of (by simp; omega) (by simp; omega)) (Def.ite (fits_nat (n := n) (by omega)) (hgo _ ?_))
    rw [cast_succ', List.take_succ_eq_append_getElem hn, List.map_append]
    rfl
theorem fnSortNone_law (code : List Int) (o0 : okD BigN (.sl (.int .u8)) code) : l_FnSortNone_m 1048700 code = some true := fnSortNone_law0 1048700 (by decide) (by decide) code (bytes_ok o0)
end Go.Proofs.Ytjggioppicabbaa
