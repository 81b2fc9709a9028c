/- The law FnSortPage, in plain Lean. -/
import Derived.Test.YtjggioppicabbaaS10
set_option linter.unusedVariables false
set_option linter.unusedSimpArgs false
namespace Go.Proofs.Ytjggioppicabbaa
open Go.RowKit
/-- A page of a list: what comes behind a value, so many. -/
inductive Page (l : List Int) (a many : Int) : List Int → Prop
  | none (h : a ∉ l) : Page l a many []
  | few (h : many < 1) : Page l a many []
  | at (j : Nat) (hj : l[j]? = some a) (hb : a ∉ l.take j) (hm : 1 ≤ many) : Page l a many ((l.drop (j + 1)).take many.toNat)
theorem first_one {l : List Int} {a : Int} {i j : Nat} (h1 : l[i]? = some a) (h2 : a ∉ l.take i) (h3 : l[j]? = some a) (h4 : a ∉ l.take j) : i = j := by
  have aux : ∀ i j : Nat, l[i]? = some a → a ∉ l.take j → ¬ i < j := fun i j g1 g2 hij => by
    refine g2 (List.mem_of_getElem? (i := i) ?_)
    rw [List.getElem?_take_of_lt hij]; exact g1
  have := aux i j h1 h4
  have := aux j i h3 h2
  omega
theorem Page.same {l : List Int} {a many : Int} {x y : List Int} (h1 : Page l a many x) (h2 : Page l a many y) : x = y := by
  rcases h1 with h | h | ⟨j, hj, hb, hm⟩ <;> rcases h2 with h' | h' | ⟨i, hi, hb', hm'⟩
  · rfl
  · rfl
  · exact absurd (List.mem_of_getElem? hi) h
  · rfl
  · rfl
  · omega
  · exact absurd (List.mem_of_getElem? hj) h'
  · omega
  · rw [first_one hj hb hi hb']
theorem not_take_succ {l : List Int} {a : Int} {n : Nat} (hn : n < l.length) (h : a ∉ l.take n) (e : ¬ a = l[n]) : a ∉ l.take (n + 1) := by
  rw [List.take_succ_eq_append_getElem hn, List.mem_append, List.mem_singleton]
  rintro (h' | h')
  · exact h h'
  · exact e h'
theorem index_def (N : Nat) (l : List Int) (a : Int) (h : l.length < N) (hN : N ≤ 1099511627776) : Def (k_slices_Index_484_m N l a) fun r => (r = -1 ∧ a ∉ l) ∨ ∃ j : Nat, r = (j : Int) ∧ j < l.length ∧ l[j]? = some a ∧ a ∉ l.take j := by
  unfold k_slices_Index_484_m
  refine Def.upto l.length (fun n g => a ∉ l.take n ∧ g = (l, a, (l.length : Int), (n : Int))) ?_ ?_ N 0 _ (Nat.zero_le _) ⟨by simp, rfl⟩ (by omega)
  · rintro go _ ⟨hm, rfl⟩
    dsimp only
    rw [decide_eq_false (Int.lt_irrefl _), cond_false]
    rw [List.take_length] at hm
    exact Def.ret (.inl ⟨rfl, hm⟩)
  · rintro go n _ hn ⟨hm, rfl⟩ hgo
    dsimp only
    rw [decide_eq_true (by omega : (n : Int) < (l.length : Int)), cond_true, idx_at hn, Option.bind_some]
    refine Def.dif (fun e => Def.ret (.inr ⟨n, rfl, hn, by rw [List.getElem?_eq_getElem hn, e], hm⟩)) (fun e => ?_)
    exact Def.ite (fits_nat (n := n) (by omega)) (hgo _ ⟨not_take_succ hn hm e, by rw [cast_succ']⟩)
theorem implPage_tail (N : Nat) (l : List Int) (a many : Int) (h : l.length < N) (hl : l.length ≤ 1000000) (hN : N ≤ 1099511627776) :
    Def (Option.bind (k_slices_Index_484_m N l a) fun (r2 : Int) =>
      (bif (decide (r2 < 0)) then
        (some ([] : List Int))
        else
        (bif (decide (many < 1)) then
          (some ([] : List Int))
          else
          (if fits (r2 + 1) then (Option.bind (cut l (r2 + 1) (l.length : Int)) fun (y : List Int) =>
              (Option.bind (cut y 0 (if (y.length : Int) < many then (y.length : Int) else many)) fun (y2 : List Int) =>
                (if room ([] : List Int).length y2.length 8 then
                  (some (([] : List Int) ++ y2))
                  else none))) else none)))) (Page l a many) := by
  refine Def.bind (index_def N l a h hN) fun r hr => ?_
  refine Def.dif (fun e => ?_) (fun e => ?_)
  · rcases hr with ⟨_, h⟩ | ⟨j, rfl, _⟩
    · exact Def.ret (.none h)
    · omega
  refine Def.dif (fun e2 => Def.ret (.few e2)) (fun e2 => ?_)
  rcases hr with ⟨rfl, _⟩ | ⟨j, rfl, hj, h1, h2⟩
  · exact absurd (by decide) e
  refine Def.ite (fits_nat (n := j) (by omega)) (Def.cut (by omega) (by omega) (by omega) ?_)
  have c1 : (l.take ((l.length : Int)).toNat).drop (((j : Int) + 1)).toNat = l.drop (j + 1) := by
    rw [Int.toNat_natCast, List.take_length, show ((j : Int) + 1).toNat = j + 1 from by omega]
  rw [c1]
  have hdl : (l.drop (j + 1)).length = l.length - (j + 1) := List.length_drop
  have fin : ∀ k : Int, 0 ≤ k → k ≤ ((l.drop (j + 1)).length : Int) → (l.drop (j + 1)).take k.toNat = (l.drop (j + 1)).take many.toNat →
      Def (Option.bind (cut (l.drop (j + 1)) 0 k) fun (y2 : List Int) => (if room ([] : List Int).length y2.length 8 then (some (([] : List Int) ++ y2)) else none)) (Page l a many) := fun k k0 k1 k2 => by
    refine Def.cut (by omega) k0 k1 ?_
    have c2 : ((l.drop (j + 1)).take k.toNat).drop ((0 : Int)).toNat = (l.drop (j + 1)).take many.toNat := k2
    rw [c2]
    have hyl : ((l.drop (j + 1)).take many.toNat).length ≤ 1000000 := by simp only [List.length_take, List.length_drop]; omega
    refine Def.ite (room_of (by simp only [List.length_nil]; omega) (by simp only [List.length_nil]; omega)) ?_
    rw [List.nil_append]
    exact Def.ret (.at j h1 h2 (by omega))
  by_cases e3 : ((l.drop (j + 1)).length : Int) < many
  · rw [if_pos e3]
    refine fin _ (by omega) (Int.le_refl _) ?_
    rw [Int.toNat_natCast, List.take_length, List.take_of_length_le (by omega)]
  · rw [if_neg e3]
    exact fin _ (by omega) (by omega) rfl
theorem specPage_tail (N : Nat) (l : List Int) (a many : Int) (h : l.length < N) (hl : l.length ≤ 1000000) (hN : N ≤ 1099511627776) (F) (hF : F = fun (go : (Int × Int × (List Int) × (List Int) × Bool × Int) → Option ((List Int))) (g : Int × Int × (List Int) × (List Int) × Bool × Int) => 
        match g with
        | (after2, many2, out, list, on, i) =>
        (bif (decide (i < (list.length : Int))) then
          (bif (decide ((out.length : Int) < many2)) then
            (meet (fun (g : Int × Int × (List Int) × (List Int) × Bool × Int × Bool) => 
                match g with
                | (after3, many3, out2, list2, on2, i2, t25) =>
                (bif on2 then
                  (if fits (i2 + 1) then (go (after3, many3, out2, list2, true, (i2 + 1))) else none)
                  else
                  (Option.bind (idx list2 i2) fun (e2 : Int) =>
                    (if fits (i2 + 1) then (go (after3, many3, out2, list2, (decide (e2 = after3)), (i2 + 1))) else none)))) fun (J : (Int × Int × (List Int) × (List Int) × Bool × Int × Bool) → Option ((List Int))) =>
              (bif on then
                (Option.bind (idx list i) fun (e : Int) =>
                  (if room out.length ([e] : List Int).length 8 then
                    (J (after2, many2, (out ++ ([e] : List Int)), list, on, i, (decide ((out.length : Int) < many2))))
                    else none))
                else
                (J (after2, many2, out, list, on, i, (decide ((out.length : Int) < many2))))))
            else
            (some out))
          else
          (some out))) :
    Def (iter F N (a, many, ([] : List Int), l, false, 0)) (Page l a many) := by
  let On : Nat → Bool → List Int → Prop := fun n on out => match on with
    | false => a ∉ l.take n ∧ out = []
    | true => ∃ j, j < n ∧ l[j]? = some a ∧ a ∉ l.take j ∧ out = (l.take n).drop (j + 1)
  have done : ∀ n on out, n ≤ l.length → On n on out → (n = l.length ∧ (out.length : Int) ≤ many ∧ 1 ≤ many ∨ ¬ ((out.length : Int) < many) ∧ (out.length : Int) ≤ max many 0) → Page l a many out := fun n on out hn ho hd => by
    cases on with
    | false =>
      obtain ⟨h1, rfl⟩ := ho
      rcases hd with ⟨rfl, _⟩ | ⟨h2, _⟩
      · rw [List.take_length] at h1; exact .none h1
      · exact .few (by simp at h2; omega)
    | true =>
      obtain ⟨j, hj, h1, h2, h3⟩ := ho
      have hol : out.length = n - (j + 1) := by rw [h3]; simp; omega
      by_cases hm : many < 1
      · have : out = [] := List.length_eq_zero_iff.1 (by rcases hd with ⟨_, h, h'⟩ | ⟨_, h⟩ <;> omega)
        rw [this]; exact .few hm
      have e : out = (l.drop (j + 1)).take many.toNat := by
        rcases hd with ⟨rfl, h4, _⟩ | ⟨h4, h5⟩
        · rw [h3, List.take_length, List.take_of_length_le]
          rw [List.length_drop]; omega
        · have hx : out.length = many.toNat := by omega
          rw [h3, List.drop_take, show n - (j + 1) = many.toNat from by omega]
      rw [e]
      exact .at j h1 h2 (by omega)
  refine Def.upto l.length (fun n g => ∃ on out, On n on out ∧ (out.length : Int) ≤ max many 0 ∧ g = (a, many, out, l, on, (n : Int))) ?_ ?_ N 0 _ (Nat.zero_le _) ⟨false, [], ⟨by simp, rfl⟩, by simp; omega, rfl⟩ (by omega)
  · rintro go _ ⟨on, out, ho, hl, rfl⟩
    rw [hF]
    dsimp only
    rw [decide_eq_false (Int.lt_irrefl _), cond_false]
    refine Def.ret (done _ on out (Nat.le_refl _) ho ?_)
    by_cases hm : many < 1
    · exact .inr ⟨by omega, hl⟩
    · exact .inl ⟨rfl, by omega, by omega⟩
  · rintro go n _ hn ⟨on, out, ho, hle, rfl⟩ hgo
    rw [hF] at *
    dsimp only
    rw [decide_eq_true (by omega : (n : Int) < (l.length : Int)), cond_true]
    refine Def.dif (fun e => ?_) (fun e => Def.ret (done n on out (by omega) ho (.inr ⟨e, hle⟩)))
    unfold meet
    dsimp only
    cases on with
    | true =>
      obtain ⟨j, hj, h1, h2, h3⟩ := ho
      have hol : out.length = n - (j + 1) := by rw [h3]; simp; omega
      rw [cond_true, idx_at hn, Option.bind_some]
      refine Def.ite (room_of (by simp only [List.length_cons, List.length_nil]; omega) (by simp only [List.length_cons, List.length_nil]; omega)) ?_
      rw [cond_true]
      refine Def.ite (fits_nat (n := n) (by omega)) (hgo _ ⟨true, out ++ [l[n]], ⟨j, by omega, h1, h2, ?_⟩, by simp; omega, by rw [cast_succ']⟩)
      rw [List.take_succ_eq_append_getElem hn, List.drop_append_of_le_length (by simp; omega), h3]
    | false =>
      obtain ⟨h1, rfl⟩ := ho
      rw [cond_false, cond_false, idx_at hn, Option.bind_some]
      refine Def.ite (fits_nat (n := n) (by omega)) (hgo _ ⟨decide (l[n] = a), [], ?_, hle, by rw [cast_succ']⟩)
      by_cases ea : l[n] = a
      · rw [decide_eq_true ea]
        exact ⟨n, by omega, by rw [List.getElem?_eq_getElem hn, ea], h1, by simp⟩
      · rw [decide_eq_false ea]
        exact ⟨not_take_succ hn h1 (fun e => ea e.symm), rfl⟩
theorem implPage_def (N : Nat) (xs : List EDoc) (ks : List EKey) (a many : Int) (l : List Int) (h1 : i_SortOf_m N xs ks = some l) (h : l.length < N) (hl : l.length ≤ 1000000) (hN : N ≤ 1099511627776) : Def (i_SortPage_m N xs ks a many) (Page l a many) := by
  unfold i_SortPage_m
  rw [h1, Option.bind_some]
  exact implPage_tail N l a many h hl hN
theorem specPage_def (N : Nat) (xs : List EDoc) (ks : List EKey) (a many : Int) (l : List Int) (h1 : s_SortOf_m N xs ks = some l) (h : l.length < N) (hl : l.length ≤ 1000000) (hN : N ≤ 1099511627776) : Def (s_SortPage_m N xs ks a many) (Page l a many) := by
  unfold s_SortPage_m
  rw [h1, Option.bind_some]
  exact specPage_tail N l a many h hl hN _ rfl
theorem page_same (N : Nat) (xs : List EDoc) (ks : List EKey) (a many : Int) (l : List Int) (h1 : i_SortOf_m N xs ks = some l) (h2 : s_SortOf_m N xs ks = some l) (h : l.length < N) (hl : l.length ≤ 1000000) (hN : N ≤ 1099511627776) :
    ∃ r, i_SortPage_m N xs ks a many = some r ∧ s_SortPage_m N xs ks a many = some r ∧ Page l a many r := by
  obtain ⟨r, g1, p1⟩ := implPage_def N xs ks a many l h1 h hl hN
  obtain ⟨r', g2, p2⟩ := specPage_def N xs ks a many l h2 h hl hN
  exact ⟨r, g1, by rw [g2, p1.same p2], p1⟩
theorem drawPage_def (N : Nat) {code : List Int} (hb : Bs code) (hN : 20 ≤ N) : Def (s_DrawSortPage_m N code) fun r => r.1.length ≤ 7 ∧ (∀ x, x ∈ r.1 → okD Sm TDoc x ∧ shortN x.2.2) ∧ okD Sm (.sl TKey) r.2.1 ∧ (0 ≤ r.2.2.1 ∧ r.2.2.1 ≤ 100) ∧ (0 ≤ r.2.2.2 ∧ r.2.2.2 ≤ 100) := by
  unfold s_DrawSortPage_m
  refine Def.bind (open_def N hb) fun r h0 => ?_
  refine Def.bind (anyDocs_def N h0 (by omega) hN) fun r2 ⟨⟨l2, o2⟩, h2⟩ => ?_
  refine Def.bind (keys_def2 N h2 (by omega) hN) fun r3 ⟨o3, h3⟩ => ?_
  refine Def.bind (pick_def N 10 h3 (by omega)) fun r4 ⟨p0, p1, _, h4⟩ => ?_
  refine Def.bind (pick_def N 5 h4 (by omega)) fun r5 ⟨q0, q1, _, h5⟩ => ?_
  have p1 := p1 (by omega)
  have q1 := q1 (by omega)
  exact Def.ret ⟨l2, o2, o3, ⟨p0, by dsimp only; omega⟩, q0, by dsimp only; omega⟩
theorem fnSortPage_law0 (N : Nat) (hM : Sm < N) (hN : N ≤ 1099511627776) (code : List Int) (hb : Bs code) : l_FnSortPage_m N code = some true := by
  have hM' : 1048576 < N := hM
  refine Def.get ?_
  unfold l_FnSortPage_m
  refine Def.dif (fun _ => Def.ret rfl) (fun _ => ?_)
  refine Def.bind (drawPage_def N hb (by omega)) fun r ⟨hl, ho', hk, ha, hm⟩ => ?_
  obtain ⟨xs, ks, after, many⟩ := r
  dsimp only at hl ho' hk ha hm ⊢
  have ho : ∀ x, x ∈ xs → okD Sm TDoc x := fun x hx => (ho' x hx).1
  obtain ⟨l, e1, e2, hs⟩ := sort_same N hM hN xs ks ho (by omega) hk
  have hll : l.length ≤ 7 ∧ l.Nodup := by
    rcases hs with ⟨_, rfl⟩ | ⟨hok, ys, hp, _, rfl⟩
    · simp
    · rw [List.length_map, hp.length_eq]
      simp only [Bool.and_eq_true] at hok
      exact ⟨hl, ((okDocs_docs ho hok.1).perm hp).one⟩
  obtain ⟨p, g1, g2, hp⟩ := page_same N xs ks after many l e1 e2 (by omega) (by omega) hN
  have hpl : p.length ≤ 7 := by
    rcases hp with h | h | ⟨j, hj, hb, hm⟩
    · simp
    · simp
    · simp only [List.length_take, List.length_drop]; omega
  have e3 : l_foInts_m N p p = some true := (foInts_spec N p p (by omega) hN).trans (by rw [decide_eq_true rfl])
  rw [g1, Option.bind_some, g2, Option.bind_some, e3, Option.bind_some, Bool.not_true, cond_false]
  refine Def.dif (fun _ => by rw [Option.bind_some, e3, Option.bind_some]; exact Def.ret rfl) (fun h0 => ?_)
  rw [e1, Option.bind_some]
  rcases hp with h | h | ⟨j, hj, hbf, hm1⟩
  · exact absurd rfl h0
  · exact absurd rfl h0
  have hjl : j < l.length := (List.getElem?_eq_some_iff.1 hj).1
  have hja : l[j] = after := by rw [List.getElem?_eq_getElem hjl] at hj; exact Option.some.inj hj
  refine Def.upto l.length (fun n g => g = (after, many, (l.drop (j + 1)).take many.toNat, l, (if j < n then (j : Int) else -1), (n : Int))) ?_ ?_ N 0 _ (Nat.zero_le _) rfl (by omega)
  · rintro go _ rfl
    dsimp only
    rw [decide_eq_false (Int.lt_irrefl _), cond_false, if_pos hjl]
    refine Def.ite (by unfold fits; omega) (Def.ite (by unfold fits; omega) ?_)
    have fin : ∀ e : Int, (j : Int) + 1 ≤ e → e ≤ l.length → (l.take e.toNat).drop (j + 1) = (l.drop (j + 1)).take many.toNat →
        Def (bif (decide ((0 : Int) ≤ (j : Int))) then
                                  (if fits ((j : Int) + 1) then (Option.bind (cut l ((j : Int) + 1) e) fun (y : List Int) =>
                                      (Option.bind (l_foInts_m N ((l.drop (j + 1)).take many.toNat) y) fun (r10 : Bool) =>
                                        (some r10))) else none)
                                  else
                                  (some false)) fun r => r = true := fun e h1 h2 h3 => by
      rw [decide_eq_true (by omega : (0 : Int) ≤ (j : Int)), cond_true]
      refine Def.ite (fits_nat (n := j) (by omega)) (Def.cut (by omega) h1 h2 ?_)
      have c : (l.take e.toNat).drop (((j : Int) + 1)).toNat = (l.drop (j + 1)).take many.toNat := by
        rw [show ((j : Int) + 1).toNat = j + 1 from by omega]; exact h3
      rw [c, e3, Option.bind_some]
      exact Def.ret rfl
    unfold meet
    dsimp only
    refine Def.dif (fun e => ?_) (fun e => ?_)
    · refine fin _ (by omega) (Int.le_refl _) ?_
      rw [Int.toNat_natCast, List.take_length, List.take_of_length_le (by rw [List.length_drop]; omega)]
    · refine fin _ (by omega) (by omega) ?_
      rw [show ((j : Int) + 1 + many).toNat = (j + 1) + many.toNat from by omega, List.drop_take, Nat.add_sub_cancel_left]
  · rintro go n _ hn rfl hgo
    dsimp only
    rw [decide_eq_true (by omega : (n : Int) < (l.length : Int)), cond_true, idx_at hn, Option.bind_some]
    refine Def.dif (fun e => ?_) (fun e => ?_)
    · have hnj : n = j := by
        have h1 := List.pairwise_iff_getElem.1 hll.2
        rcases Nat.lt_trichotomy n j with h | h | h
        · exact absurd (e.trans hja.symm) (h1 n j hn hjl h)
        · exact h
        · exact absurd (hja.trans e.symm) (h1 j n hjl hn h)
      subst hnj
      refine Def.ite (fits_nat (n := n) (by omega)) (hgo _ ?_)
      rw [if_pos (by omega), cast_succ']
    · have hnj : n ≠ j := by
        rintro rfl
        exact e hja
      refine Def.ite (fits_nat (n := n) (by omega)) (hgo _ ?_)
      rw [cast_succ']
      by_cases hlt : j < n
      · rw [if_pos hlt, if_pos (by omega)]
      · rw [if_neg hlt, if_neg (by omega)]
theorem fnSortPage_law (code : List Int) (o0 : okD BigN (.sl (.int .u8)) code) : l_FnSortPage_m 1048700 code = some true := fnSortPage_law0 1048700 (by decide) (by decide) code (bytes_ok o0)
end Go.Proofs.Ytjggioppicabbaa
