import Derived.Test.YtjggioppicabbaaQS
import Derived.Test.YtjggioppicabbaaSB
/- The models of slices.SortFunc of this program are the general ones. -/
set_option linter.unusedVariables false
set_option linter.unusedSimpArgs false
namespace Go.Proofs.Ytjggioppicabbaa
open Go.RowKit
/-! k_slices_SortFunc_669 -/
def cmp669 (N : Nat) : (List ((List UInt8) × Bool)) → (Int × (List ((List UInt8) × (List UInt8))) × (List ((List UInt8) × Int))) → (Int × (List ((List UInt8) × (List UInt8))) × (List ((List UInt8) × Int))) → Option Int := (fun (cmp : List ((List UInt8) × Bool)) (e e2 : Int × (List ((List UInt8) × (List UInt8))) × (List ((List UInt8) × Int))) => i_SortOf_1_m N e.1 e.2.1 e.2.2 e2.1 e2.2.1 e2.2.2 cmp)
theorem insertionSort_669 (N : Nat) (d : List (Int × (List ((List UInt8) × (List UInt8))) × (List ((List UInt8) × Int)))) (a b : Int) (ks : List ((List UInt8) × Bool)) : k_slices_insertionSortCmpFunc_424_m N d a b ks = insG (cmp669 N) N d a b ks := rfl
theorem breakPatterns_669 (N : Nat) (d : List (Int × (List ((List UInt8) × (List UInt8))) × (List ((List UInt8) × Int)))) (a b : Int) (ks : List ((List UInt8) × Bool)) : k_slices_breakPatternsCmpFunc_337_m N d a b ks = breakG N d a b ks := rfl
theorem choosePivot_669 (N : Nat) (d : List (Int × (List ((List UInt8) × (List UInt8))) × (List ((List UInt8) × Int)))) (a b : Int) (ks : List ((List UInt8) × Bool)) : k_slices_choosePivotCmpFunc_156_m N d a b ks = choosePivotG (cmp669 N) N d a b ks := rfl
theorem reverseRange_669 (N : Nat) (d : List (Int × (List ((List UInt8) × (List UInt8))) × (List ((List UInt8) × Int)))) (a b : Int) (ks : List ((List UInt8) × Bool)) : k_slices_reverseRangeCmpFunc_583_m N d a b ks = reverseRangeG N d a b ks := rfl
theorem partialInsertionSort_669 (N : Nat) (d : List (Int × (List ((List UInt8) × (List UInt8))) × (List ((List UInt8) × Int)))) (a b : Int) (ks : List ((List UInt8) × Bool)) : k_slices_partialInsertionSortCmpFunc_281_m N d a b ks = pisG (cmp669 N) N d a b ks := rfl
theorem partition_669 (N : Nat) (d : List (Int × (List ((List UInt8) × (List UInt8))) × (List ((List UInt8) × Int)))) (a b p : Int) (ks : List ((List UInt8) × Bool)) : k_slices_partitionCmpFunc_789_m N d a b p ks = partG (cmp669 N) N d a b p ks := rfl
theorem pdqsort_669 (N : Nat) : ∀ (D : Nat) (d : List (Int × (List ((List UInt8) × (List UInt8))) × (List ((List UInt8) × Int)))) (a b l : Int) (ks : List ((List UInt8) × Bool)), k_slices_pdqsortCmpFunc_895_m N D d a b l ks = pdqG (cmp669 N) (fun d a b ks => k_slices_heapSortCmpFunc_308_m N d a b ks) (fun d a b p ks => k_slices_partitionEqualCmpFunc_776_m N d a b p ks) N D d a b l ks
  | 0, _, _, _, _, _ => rfl
  | D + 1, d, a, b, l, ks => by
    have ih : k_slices_pdqsortCmpFunc_895_m N D = pdqG (cmp669 N) (fun d a b ks => k_slices_heapSortCmpFunc_308_m N d a b ks) (fun d a b p ks => k_slices_partitionEqualCmpFunc_776_m N d a b p ks) N D := by funext d a b l ks; exact pdqsort_669 N D d a b l ks
    unfold k_slices_pdqsortCmpFunc_895_m pdqG
    rw [ih]
    rfl
theorem sortFunc_669 (lt : (Int × (List ((List UInt8) × (List UInt8))) × (List ((List UInt8) × Int))) → (Int × (List ((List UInt8) × (List UInt8))) × (List ((List UInt8) × Int))) → Bool) (ho : Ordr lt) (N : Nat) (hN : N ≤ 16777216) (h5 : 5 < N) (d : List (Int × (List ((List UInt8) × (List UInt8))) × (List ((List UInt8) × Int)))) (ks : List ((List UInt8) × Bool)) (hC : Comp (cmp669 N) ks lt d) (hl : d.length < N) (hH : HeapOk (cmp669 N) ks lt N (fun d a b ks => k_slices_heapSortCmpFunc_308_m N d a b ks) ∨ d.length ≤ 16) :
    Def (k_slices_SortFunc_669_m N d ks) fun r => r.Perm d ∧ r.Pairwise fun x y => lt x y = true := by
  unfold k_slices_SortFunc_669_m
  by_cases h0 : d.length = 0
  · obtain rfl : d = [] := List.length_eq_zero_iff.1 h0
    have e : IntKind.u64.wrap (([] : List (Int × (List ((List UInt8) × (List UInt8))) × (List ((List UInt8) × Int)))).length : Int) = 0 := by show IntKind.u64.wrap 0 = 0; decide
    refine Def.bind (P := fun r => r = 0) ?_ fun r hr => ?_
    · rw [e]; exact ⟨0, rfl, rfl⟩
    · subst hr
      rw [pdqsort_669]
      refine Def.bind (pdq_def ho N hN h5 _ _ N [] 0 0 0 hC (fun h => by omega) (Nat.le_refl _) (Nat.le_refl _) hl (by omega) (by omega) (.inr (by omega))) fun r ⟨h1, _⟩ => ?_
      have := List.perm_nil.1 h1.perm
      subst this
      exact Def.ret ⟨List.Perm.refl _, List.Pairwise.nil⟩
  refine Def.bind (len_bits N d.length (by omega) (by omega)) fun r ⟨n, hn, b1, b2, b3⟩ => ?_
  subst hn
  rw [pdqsort_669]
  have hb : HeapOk (cmp669 N) ks lt N (fun d a b ks => k_slices_heapSortCmpFunc_308_m N d a b ks) ∨ d.length - 0 ≤ 11 + n := by
    refine hH.imp_right fun h => ?_
    by_cases e : d.length ≤ 12
    · have : 1 ≤ n := by
        by_cases e4 : 1 ≤ n
        · exact e4
        · exfalso
          have : 2 ^ n ≤ 2 ^ 0 := Nat.pow_le_pow_right (by omega) (by omega)
          omega
      omega
    · have : 4 ≤ n := by
        by_cases e4 : 4 ≤ n
        · exact e4
        · exfalso
          have : 2 ^ n ≤ 2 ^ 3 := Nat.pow_le_pow_right (by omega) (by omega)
          omega
      by_cases e5 : d.length = 16
      · have : 5 ≤ n := by
          by_cases e4 : 5 ≤ n
          · exact e4
          · exfalso
            have : 2 ^ n ≤ 2 ^ 4 := Nat.pow_le_pow_right (by omega) (by omega)
            omega
        omega
      · omega
  refine Def.bind (pdq_def ho N hN h5 _ _ N d 0 d.length n hC (fun h => by omega) (Nat.zero_le _) (Nat.le_refl _) hl (by omega) (by omega) hb) fun r ⟨h1, h2⟩ => Def.ret ⟨h1.perm, ?_⟩
  have hrl := h1.len
  refine List.pairwise_iff_getElem.2 fun i j hi hj hij => ?_
  have := h2 i j (Nat.zero_le _) hij (by omega)
  rw [List.getElem?_eq_getElem hi, List.getElem?_eq_getElem hj] at this
  exact this
end Go.Proofs.Ytjggioppicabbaa

/- Plain laws: marking documents and keys; numbers. -/
set_option linter.unusedVariables false
set_option linter.unusedSimpArgs false
namespace Go.Proofs.Ytjggioppicabbaa
open Go.RowKit
theorem markFieldS_def (N : Nat) (hM : Sm < N) (hN : N ≤ 1099511627776) (a : List EField) (k : Int) (hk : 0 ≤ k) (hK : k + 2097152 ≤ 1000000000000000000) (hl : a.length ≤ Sm) : Def (l_markFieldS_m N a k) fun r => k ≤ r.1 ∧ r.1 ≤ k + (2 * a.length : Nat) := by
  have hM' : 1048576 < N := hM
  have hl' : a.length ≤ 1048576 := hl
  unfold l_markFieldS_m
  refine markTot N 2 (fun _ => True) (fun go a k => ?_) (fun go a n hn k P hn0 _ hk hK h => ?_) a k hk (by omega) (by omega) hN (fun _ _ => True.intro)
  · dsimp only
    rw [decide_eq_false (Int.lt_irrefl _), cond_false]
  · dsimp only
    rw [decide_eq_true (by omega : (n : Int) < (a.length : Int)), cond_true]
    refine Def.bind (markText_def N hk (by omega) (by omega)) fun r _ => Def.ite (by omega) (Def.at hn (Def.ite (by unfold fits; omega) (Def.bind (markText_def N (by omega) (by omega) (by omega)) fun r2 _ => Def.ite (by rw [List.length_set]; omega) (Def.atSet hn (Def.ite (by unfold fits; omega) (Def.ite (fits_nat (n := n) (by omega)) ?_))))))
    rw [Int.toNat_natCast, set_set]
    exact h _ _ (by omega) (by omega)
theorem markAttrS_def (N : Nat) (hM : Sm < N) (hN : N ≤ 1099511627776) (a : List EAttr) (k : Int) (hk : 0 ≤ k) (hK : k + 2097152 ≤ 1000000000000000000) (hl : a.length ≤ Sm) : Def (l_markAttrS_m N a k) fun r => k ≤ r.1 ∧ r.1 ≤ k + (2 * a.length : Nat) := by
  have hM' : 1048576 < N := hM
  have hl' : a.length ≤ 1048576 := hl
  unfold l_markAttrS_m
  refine markTot N 2 (fun _ => True) (fun go a k => ?_) (fun go a n hn k P hn0 _ hk hK h => ?_) a k hk (by omega) (by omega) hN (fun _ _ => True.intro)
  · dsimp only
    rw [decide_eq_false (Int.lt_irrefl _), cond_false]
  · dsimp only
    rw [decide_eq_true (by omega : (n : Int) < (a.length : Int)), cond_true]
    refine Def.bind (markText_def N hk (by omega) (by omega)) fun r _ => Def.ite (by omega) (Def.at hn (Def.ite (by unfold fits; omega) (Def.ite (by rw [List.length_set]; omega) (Def.atSet hn (Def.ite (by unfold fits; omega) (Def.ite (fits_nat (n := n) (by omega)) ?_))))))
    rw [Int.toNat_natCast, set_set]
    exact h _ _ (by omega) (by omega)
theorem markDocS_def (N : Nat) (hM : Sm < N) (hN : N ≤ 1099511627776) (a : List EDoc) (k : Int) (hk : 0 ≤ k) (hK : k ≤ 800000000000000000) (ho : okD Sm (.sl TDoc) a) : Def (l_markDocS_m N a k) fun r => k ≤ r.1 ∧ r.1 ≤ k + (5242880 * a.length : Nat) := by
  have hM' : 1048576 < N := hM
  have hl : List.length a ≤ 1048576 := ho.1
  unfold l_markDocS_m
  refine markTot N 5242880 (fun x => x.2.1.length ≤ 1048576 ∧ x.2.2.length ≤ 1048576) (fun go a k => ?_) (fun go a n hn k P hn0 hx hk hK h => ?_) a k hk (by omega) (by omega) hN (fun x hx => ⟨(ho.2 x hx).2.1.1, (ho.2 x hx).2.2.1⟩)
  · dsimp only
    rw [decide_eq_false (Int.lt_irrefl _), cond_false]
  · dsimp only
    rw [decide_eq_true (by omega : (n : Int) < (a.length : Int)), cond_true]
    refine Def.ite (by omega) (Def.at hn (Def.ite (by unfold fits; omega) (Def.ite (by rw [List.length_set]; omega) (Def.atSet hn ?_))))
    refine Def.bind (markFieldS_def N hM hN _ _ (by omega) (by omega) hx.1) fun r ⟨r1, r2⟩ => ?_
    dsimp only at r1 r2
    refine Def.ite (by rw [List.length_set]; omega) (Def.atSet hn ?_)
    refine Def.bind (markAttrS_def N hM hN _ _ (by omega) (by omega) hx.2) fun s ⟨s1, s2⟩ => Def.ite (fits_nat (n := n) (by omega)) ?_
    rw [Int.toNat_natCast, modify_set, modify_set]
    dsimp only at s1 s2
    exact h _ _ (by omega) (by omega)
theorem markKeyS_def (N : Nat) (hM : Sm < N) (hN : N ≤ 1099511627776) (a : List EKey) (k : Int) (hk : 0 ≤ k) (hK : k + 2097152 ≤ 1000000000000000000) (hl : a.length ≤ Sm) : Def (l_markKeyS_m N a k) fun r => k ≤ r.1 ∧ r.1 ≤ k + (2 * a.length : Nat) := by
  have hM' : 1048576 < N := hM
  have hl' : a.length ≤ 1048576 := hl
  unfold l_markKeyS_m
  refine markTot N 2 (fun _ => True) (fun go a k => ?_) (fun go a n hn k P hn0 _ hk hK h => ?_) a k hk (by omega) (by omega) hN (fun _ _ => True.intro)
  · dsimp only
    rw [decide_eq_false (Int.lt_irrefl _), cond_false]
  · dsimp only
    rw [decide_eq_true (by omega : (n : Int) < (a.length : Int)), cond_true]
    refine Def.bind (markText_def N hk (by omega) (by omega)) fun r _ => Def.ite (by omega) (Def.at hn (Def.ite (by unfold fits; omega) (Def.ite (by omega) (Def.ite (by rw [List.length_set]; omega) (Def.atSet hn (Def.ite (by unfold fits; omega) (Def.ite (fits_nat (n := n) (by omega)) ?_)))))))
    rw [Int.toNat_natCast, set_set]
    exact h _ _ (by omega) (by omega)
/-! ### numbers -/
theorem eqIntS_spec (N : Nat) (a b : List Int) (h : a.length < N) (hN : N ≤ 1099511627776) : l_eqIntS_m N a b = some (decide (a = b)) :=
  eqLoop_spec (fun (e e2 : Int) => some (decide (e = e2))) N a b h hN fun x hx y => rfl
def mInt (x : Int) (k : Int) : Int := k
def cInt (x : Int) : Nat := 1
theorem markIntS_spec (N : Nat) (a : List Int) (k : Int) (hk : 0 ≤ k) (hK : k + mcnt cInt a ≤ 1000000000000000000) (h : a.length < N) (hN : N ≤ 1099511627776) : l_markIntS_m N a k = some (k + mcnt cInt a, markL mInt cInt a k) := by
  unfold l_markIntS_m
  refine markLoop_spec mInt cInt N 1000000000000000000 (fun _ => True) (fun go a k => ?_) (fun go a n hn k hn0 _ hk hK => ?_) a k hk hK h hN (fun _ _ => True.intro)
  · dsimp only
    rw [decide_eq_false (Int.lt_irrefl _), cond_false]
  · dsimp only
    unfold cInt at hK ⊢
    rw [decide_eq_true (by omega : (n : Int) < (a.length : Int)), cond_true, if_pos (by omega), Int.toNat_natCast, List.getElem?_eq_getElem hn, Option.bind_some, if_pos (by unfold fits; omega), if_pos (fits_nat (n := n) (by omega))]
    rfl
theorem heldIntS_spec (N : Nat) (a : List Int) (k : Int) (hk : 0 ≤ k) (hK : k + mcnt cInt a ≤ 1000000000000000000) (h : a.length < N) (hN : N ≤ 1099511627776) : l_heldIntS_m N (markL mInt cInt a k) k = some (k + mcnt cInt a) := by
  unfold l_heldIntS_m
  refine heldLoop_spec mInt cInt N 1000000000000000000 (fun _ => True) (fun go a k => ?_) (fun go a n hn k x hn0 hx _ hk hK => ?_) a k hk hK h hN (fun _ _ => True.intro)
  · dsimp only
    rw [decide_eq_false (Int.lt_irrefl _), cond_false]
  · dsimp only
    unfold cInt at hK ⊢
    have e : a[n] = k := hx
    rw [decide_eq_true (by omega : (n : Int) < (a.length : Int)), cond_true, idx_at hn, Option.bind_some, decide_eq_true e, Bool.not_true, cond_false, if_pos (by unfold fits; omega), if_pos (fits_nat (n := n) (by omega))]
    rfl
theorem mcnt_int : ∀ a : List Int, mcnt cInt a = a.length
  | [] => rfl
  | x :: xs => by simp [mcnt, mcnt_int xs, cInt]; omega
end Go.Proofs.Ytjggioppicabbaa

/- The laws FnExactSortOf and FnExactSortPage, in plain Lean. -/
set_option linter.unusedVariables false
set_option linter.unusedSimpArgs false
namespace Go.Proofs.Ytjggioppicabbaa
open Go.RowKit
theorem lessK_ordr (ks : List EKey) : Ordr (fun a b : EDoc => lessK a b ks) := ⟨fun x y h => lessK_asym x y ks h, fun x y z h1 h2 => lessK_trans x y z ks h1 h2⟩
theorem nodup_tot {xs : List EDoc} {ks : List EKey} (h : (xs.map (·.1)).Nodup) : xs.Pairwise fun x y => lessK x y ks = true ∨ lessK y x ks = true := by
  unfold List.Nodup at h
  rw [List.pairwise_map] at h
  exact h.imp fun {a b} hab => lessK_total a b hab ks
theorem sortFunc_all (N : Nat) (hM : Sm < N) (hN : N ≤ 16777216) (data : List EDoc) (ks : List EKey) (hd : Docs data) (hk : okD Sm (.sl TKey) ks) (hl : data.length ≤ 16) :
    Def (k_slices_SortFunc_669_m N data ks) fun r => r.Perm data ∧ InOrd ks r := by
  have hM' : 1048576 < N := hM
  refine sortFunc_669 (fun a b => lessK a b ks) (lessK_ordr ks) N hN (by omega) data ks ⟨fun x hx y hy => ?_, nodup_tot hd.one⟩ (by omega) (.inr hl)
  have ox := hd.ok x hx
  have oy := hd.ok y hy
  exact cmp_def N hM (by omega) x y ks ox.1 oy.1 hk ox.2 oy.2
theorem implSort_all (N : Nat) (hM : Sm < N) (hN : N ≤ 16777216) (xs : List EDoc) (ks : List EKey) (ho : ∀ x, x ∈ xs → okD Sm TDoc x) (hl : xs.length ≤ 1048576) (hk : okD Sm (.sl TKey) ks) :
    Def (i_SortOf_m N xs ks) fun r => ((okDocs xs && okKeys ks) = false ∧ r = []) ∨ ((okDocs xs && okKeys ks) = true ∧ ∃ ys, ys.Perm xs ∧ InOrd ks ys ∧ r = ys.map (·.1)) := by
  have hM' : 1048576 < N := hM
  unfold i_SortOf_m
  rw [docsOk_spec N hM (by omega) xs ho (by omega), keysOk_spec N hM (by omega) ks hk]
  simp only [Option.bind_some]
  refine Def.bif (fun e => Def.ret (.inl ⟨?_, rfl⟩)) (fun e => ?_)
  · rw [Bool.not_eq_true'] at e; rw [e]; rfl
  have e1 : okDocs xs = true := by simpa using e
  refine Def.bif (fun e => Def.ret (.inl ⟨?_, rfl⟩)) (fun e => ?_)
  · rw [Bool.not_eq_true'] at e; rw [e, Bool.and_false]
  have e2 : okKeys ks = true := by simpa using e
  have h16 : xs.length ≤ 16 := by
    unfold okDocs at e1
    simp only [Bool.and_eq_true, decide_eq_true_eq] at e1
    omega
  refine Def.ite (room_of (by simp; omega) (by simp; omega)) ?_
  rw [List.nil_append]
  refine Def.bind (sortFunc_all N hM hN xs ks (okDocs_docs ho e1) hk h16) fun r ⟨h1, h2⟩ => ?_
  have hrl := h1.length_eq
  rw [ids_spec N r (by omega) (by omega), Option.bind_some]
  exact Def.ret (.inr ⟨by rw [e1, e2]; rfl, r, h1, h2, rfl⟩)
theorem sort_all (N : Nat) (hM : Sm < N) (hN : N ≤ 16777216) (xs : List EDoc) (ks : List EKey) (ho : ∀ x, x ∈ xs → okD Sm TDoc x) (hl : xs.length ≤ 1048576) (hk : okD Sm (.sl TKey) ks) :
    ∃ r, i_SortOf_m N xs ks = some r ∧ s_SortOf_m N xs ks = some r ∧ r.length ≤ 1048576 := by
  obtain ⟨r, h1, h2⟩ := implSort_all N hM hN xs ks ho hl hk
  obtain ⟨r', h3, h4⟩ := specSort_def N hM (by omega) xs ks ho hl hk
  have e : r = r' := by
    rcases h2 with ⟨a, b⟩ | ⟨a, ys, p, o, b⟩ <;> rcases h4 with ⟨c, d⟩ | ⟨c, zs, q, u, d⟩
    · rw [b, d]
    · rw [a] at c; cases c
    · rw [a] at c; cases c
    · rw [b, d, ahead_same (p.trans q.symm) o u]
  subst e
  refine ⟨r, h1, h3, ?_⟩
  rcases h2 with ⟨_, rfl⟩ | ⟨_, ys, p, _, rfl⟩
  · simp
  · rw [List.length_map, p.length_eq]; exact hl
theorem fnExactSortOf_gen (N : Nat) (hM : Sm < N) (hN : N ≤ 16777216) (x0 : List EDoc) (x1 : List EKey) (o0 : okD BigN (.sl TDoc) x0) (o1 : okD BigN (.sl TKey) x1) : l_FnExactSortOf_m N x0 x1 = some true := by
  have hM' : 1048576 < N := hM
  have hN' : N ≤ 1099511627776 := by omega
  refine Def.get ?_
  unfold l_FnExactSortOf_m
  refine Def.bind (szDocS_spec N hM x0 1048576 (by omega) (by omega) o0) fun r hr => ?_
  refine Def.dif (fun e => Def.ret rfl) (fun e => ?_)
  rcases hr with hr | ⟨r0, r1, h0⟩
  · omega
  refine Def.bind (szKeyS_spec N hM x1 r r0 r1 o1) fun r2 hr2 => ?_
  refine Def.dif (fun e => Def.ret rfl) (fun e => ?_)
  rcases hr2 with hr2 | ⟨_, _, h1⟩
  · omega
  have e0 := toDocS_spec N hM hN' x0 h0
  have e1 := toKeyS_spec N hM hN' x1 h1
  obtain ⟨l, e2, e3, hl⟩ := sort_all N hM hN x0 x1 h0.2 h0.1 h1
  have e4 : l_eqIntS_m N l l = some true := (eqIntS_spec N l l (by omega) hN').trans (by rw [decide_eq_true rfl])
  have e5 : l_eqDocS_m N x0 x0 = some true := (eqDocS_spec N hM hN' x0 x0 h0).trans (by rw [decide_eq_true rfl])
  have e6 : l_eqKeyS_m N x1 x1 = some true := (eqKeyS_spec N hM hN' x1 x1 h1).trans (by rw [decide_eq_true rfl])
  have hcl := mcnt_int l
  have e7 := markIntS_spec N l 1 (by omega) (by omega) (by omega) hN'
  have e8 := heldIntS_spec N l 1 (by omega) (by omega) (by omega) hN'
  simp only [e0, e1, e2, e3, e4, e5, e6, Option.bind_some, Bool.not_true, cond_false]
  have l0 : List.length x0 ≤ 1048576 := h0.1
  have l1 : List.length x1 ≤ 1048576 := h1.1
  refine Def.bind (markDocS_def N hM hN' x0 1 (by omega) (by omega) h0) fun m ⟨m1, m2⟩ => ?_
  refine Def.bind (markKeyS_def N hM hN' x1 m.1 (by omega) (by omega) h1.1) fun m' ⟨m3, m4⟩ => ?_
  rw [decide_eq_false (by omega), cond_false, e7]
  simp only [Option.bind_some]
  rw [e8]
  simp only [Option.bind_some]
  rw [decide_eq_false (by omega), cond_false, decide_eq_true True.intro]
  exact Def.ret rfl
theorem fnExactSortOf_law (x0 : List EDoc) (x1 : List EKey) (o0 : okD BigN (.sl TDoc) x0) (o1 : okD BigN (.sl TKey) x1) : l_FnExactSortOf_m 1048700 x0 x1 = some true :=
  fnExactSortOf_gen 1048700 (by decide) (by decide) x0 x1 o0 o1
theorem fnExactSortPage_gen (N : Nat) (hM : Sm < N) (hN : N ≤ 16777216) (x0 : List EDoc) (x1 : List EKey) (a many : Int) (o0 : okD BigN (.sl TDoc) x0) (o1 : okD BigN (.sl TKey) x1) : l_FnExactSortPage_m N x0 x1 a many = some true := by
  have hM' : 1048576 < N := hM
  have hN' : N ≤ 1099511627776 := by omega
  refine Def.get ?_
  unfold l_FnExactSortPage_m
  refine Def.bind (szDocS_spec N hM x0 1048576 (by omega) (by omega) o0) fun r hr => ?_
  refine Def.dif (fun e => Def.ret rfl) (fun e => ?_)
  rcases hr with hr | ⟨r0, r1, h0⟩
  · omega
  refine Def.bind (szKeyS_spec N hM x1 r r0 r1 o1) fun r2 hr2 => ?_
  refine Def.dif (fun e => Def.ret rfl) (fun e => ?_)
  rcases hr2 with hr2 | ⟨_, _, h1⟩
  · omega
  have e0 := toDocS_spec N hM hN' x0 h0
  have e1 := toKeyS_spec N hM hN' x1 h1
  have l0 : List.length x0 ≤ 1048576 := h0.1
  have l1 : List.length x1 ≤ 1048576 := h1.1
  obtain ⟨l', g2, g3, hl'⟩ := sort_all N hM hN x0 x1 h0.2 h0.1 h1
  have hpg : ∃ l, i_SortPage_m N x0 x1 a many = some l ∧ s_SortPage_m N x0 x1 a many = some l ∧ Page l' a many l := by
    obtain ⟨r, h1, p1⟩ := implPage_def N x0 x1 a many l' g2 (by omega) hl' hN'
    obtain ⟨r', h2, p2⟩ := specPage_def N x0 x1 a many l' g3 (by omega) hl' hN'
    exact ⟨r, h1, by rw [h2, p1.same p2], p1⟩
  obtain ⟨l, e2, e3, hp⟩ := hpg
  have hl : l.length ≤ 1048576 := by
    rcases hp with h | h | ⟨j, hj, hb, hm⟩
    · simp
    · simp
    · simp only [List.length_take, List.length_drop]; omega
  have e4 : l_eqIntS_m N l l = some true := (eqIntS_spec N l l (by omega) hN').trans (by rw [decide_eq_true rfl])
  have e5 : l_eqDocS_m N x0 x0 = some true := (eqDocS_spec N hM hN' x0 x0 h0).trans (by rw [decide_eq_true rfl])
  have e6 : l_eqKeyS_m N x1 x1 = some true := (eqKeyS_spec N hM hN' x1 x1 h1).trans (by rw [decide_eq_true rfl])
  have hcl := mcnt_int l
  have e7 := markIntS_spec N l 1 (by omega) (by omega) (by omega) hN'
  have e8 := heldIntS_spec N l 1 (by omega) (by omega) (by omega) hN'
  simp only [e0, e1, e2, e3, e4, e5, e6, Option.bind_some, Bool.not_true, cond_false]
  refine Def.bind (markDocS_def N hM hN' x0 1 (by omega) (by omega) h0) fun m ⟨m1, m2⟩ => ?_
  refine Def.bind (markKeyS_def N hM hN' x1 m.1 (by omega) (by omega) h1.1) fun m' ⟨m3, m4⟩ => ?_
  rw [decide_eq_false (by omega), cond_false, e7]
  simp only [Option.bind_some]
  rw [e8]
  simp only [Option.bind_some]
  rw [decide_eq_false (by omega), cond_false, decide_eq_true True.intro]
  exact Def.ret rfl
theorem fnExactSortPage_law (x0 : List EDoc) (x1 : List EKey) (a many : Int) (o0 : okD BigN (.sl TDoc) x0) (o1 : okD BigN (.sl TKey) x1) (oa : okD BigN (.int .i64) a) (om : okD BigN (.int .i64) many) : l_FnExactSortPage_m 1048700 x0 x1 a many = some true :=
  fnExactSortPage_gen 1048700 (by decide) (by decide) x0 x1 a many o0 o1
end Go.Proofs.Ytjggioppicabbaa

