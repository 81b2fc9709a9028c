/- The law FnSortLess, in plain Lean. -/
import Derived.Test.YtjggioppicabbaaS3
set_option linter.unusedVariables false
set_option linter.unusedSimpArgs false
namespace Go.Proofs.Ytjggioppicabbaa
open Go.RowKit
theorem lessK_asym (a b : EDoc) : ∀ ks : List EKey, lessK a b ks = true → lessK b a ks = false
  | [], h => by
    unfold lessK at h ⊢
    simp only [decide_eq_true_eq, decide_eq_false_iff_not] at h ⊢
    omega
  | k :: ks, h => by
    unfold lessK at h ⊢
    by_cases e : numFrom k.1 a.2.2 = numFrom k.1 b.2.2
    · rw [if_pos e] at h
      rw [if_pos e.symm]
      exact lessK_asym a b ks h
    · rw [if_neg e] at h
      rw [if_neg (fun x => e x.symm)]
      generalize numFrom k.1 a.2.2 = x at *
      generalize numFrom k.1 b.2.2 = y at *
      by_cases h1 : x = -1 <;> by_cases h2 : y = -1 <;> by_cases h3 : x < y <;> by_cases h4 : y < x <;> cases hd : k.2 <;> simp_all <;> omega
theorem lessK_total (a b : EDoc) (hab : a.1 ≠ b.1) : ∀ ks : List EKey, lessK a b ks = true ∨ lessK b a ks = true
  | [] => by
    unfold lessK
    simp only [decide_eq_true_eq]
    omega
  | k :: ks => by
    unfold lessK
    by_cases e : numFrom k.1 a.2.2 = numFrom k.1 b.2.2
    · rw [if_pos e, if_pos e.symm]
      exact lessK_total a b hab ks
    · rw [if_neg e, if_neg (fun x => e x.symm)]
      generalize numFrom k.1 a.2.2 = x at *
      generalize numFrom k.1 b.2.2 = y at *
      by_cases h1 : x = -1 <;> by_cases h2 : y = -1 <;> by_cases h3 : x < y <;> by_cases h4 : y < x <;> cases hd : k.2 <;> simp_all <;> omega
theorem lessK_trans (a b d : EDoc) : ∀ ks : List EKey, lessK a b ks = true → lessK b d ks = true → lessK a d ks = true
  | [], h1, h2 => by
    unfold lessK at *
    simp only [decide_eq_true_eq] at *
    omega
  | k :: ks, h1, h2 => by
    have ih := lessK_trans a b d ks
    unfold lessK at h1 h2 ⊢
    generalize lessK a b ks = p1 at *
    generalize lessK b d ks = p2 at *
    generalize lessK a d ks = p3 at *
    generalize numFrom k.1 a.2.2 = x at *
    generalize numFrom k.1 b.2.2 = y at *
    generalize numFrom k.1 d.2.2 = z at *
    by_cases e1 : x = y
    · subst e1
      rw [if_pos rfl] at h1
      by_cases e2 : x = z
      · subst e2
        rw [if_pos rfl] at h2 ⊢
        exact ih h1 h2
      · rw [if_neg e2] at h2 ⊢; exact h2
    · rw [if_neg e1] at h1
      by_cases e2 : y = z
      · subst e2
        rw [if_neg e1]; exact h1
      · rw [if_neg e2] at h2
        have e3 : x ≠ z := by
          rintro rfl
          by_cases g1 : x = -1 <;> by_cases g2 : y = -1 <;> by_cases g3 : x < y <;> by_cases g4 : y < x <;> cases hd : k.2 <;> simp_all <;> omega
        rw [if_neg e3]
        by_cases g1 : x = -1 <;> by_cases g2 : y = -1 <;> by_cases g5 : z = -1 <;> by_cases g3 : x < y <;> by_cases g4 : y < z <;> by_cases g6 : x < z <;> cases hd : k.2 <;> simp_all <;> omega
/-! ### one document in order -/
theorem insert_one (N : Nat) (x : EDoc) (ks : List EKey) (hN : 1 ≤ N) : k_slices_insertionSortCmpFunc_424_m N [x] 0 1 ks = some [x] := by
  obtain ⟨M, rfl⟩ : ∃ M, N = M + 1 := ⟨N - 1, by omega⟩
  rfl
theorem len_def (N : Nat) : ∃ r, k_math_bits_Len_m N 1 = some r := ⟨1, rfl⟩
theorem once_def {δ ρ : Type} {F : (δ → Option ρ) → δ → Option ρ} {P : ρ → Prop} {N : Nat} {g : δ} (h : Def (F (iter F N) g) P) : Def (iter F (N + 1) g) P := h
theorem sortFunc_one (N : Nat) (x : EDoc) (ks : List EKey) (hN : 1 ≤ N) : k_slices_SortFunc_669_m N [x] ks = some [x] := by
  obtain ⟨M, rfl⟩ : ∃ M, N = M + 1 := ⟨N - 1, by omega⟩
  obtain ⟨r, hr⟩ := len_def (M + 1)
  unfold k_slices_SortFunc_669_m
  have e : IntKind.u64.wrap (([x] : List EDoc).length : Int) = 1 := by show IntKind.u64.wrap 1 = 1; decide
  rw [e, hr, Option.bind_some]
  have e2 : k_slices_pdqsortCmpFunc_895_m (M + 1) (M + 1) [x] 0 (([x] : List EDoc).length : Int) r ks = some [x] := by
    unfold k_slices_pdqsortCmpFunc_895_m
    refine Def.get (once_def ?_)
    dsimp only
    refine Def.ite (show fits ((1 : Int) - 0) from by unfold fits; omega) ?_
    refine Def.dif (fun _ => ?_) (fun e => absurd (show (([x] : List EDoc).length : Int) - 0 ≤ 12 from by show (1 : Int) - 0 ≤ 12; omega) e)
    have hi : k_slices_insertionSortCmpFunc_424_m (M + 1) [x] 0 (([x] : List EDoc).length : Int) ks = some [x] := insert_one (M + 1) x ks (by omega)
    rw [hi, Option.bind_some]
    exact Def.ret rfl
  rw [e2, Option.bind_some]
theorem sortOf_one (N : Nat) (hM : Sm < N) (hN : N ≤ 1099511627776) (x : EDoc) (ks : List EKey) (ho : okD Sm TDoc x) (hk : okD Sm (.sl TKey) ks) (hx : okDoc x = true) : Def (i_SortOf_m N [x] ks) fun r => okKeys ks = false → r = [] := by
  have hM' : 1048576 < N := hM
  obtain ⟨M, rfl⟩ : ∃ M, N = M + 2 := ⟨N - 2, by omega⟩
  have hd : i_DocsOk_m (M + 2) [x] = some true := by
    unfold i_DocsOk_m
    refine (check_loop _ 1 (fun n => ([x], [x], 1, (n : Int))) (fun _ => true) true (fun go => ?_) (fun go n hn => ?_) (M + 2) (by omega)).trans (by rfl)
    · rfl
    · obtain rfl : n = 0 := by omega
      dsimp only
      rw [decide_eq_true (by omega : ((0 : Nat) : Int) < 1), cond_true]
      have hi : idx [x] ((0 : Nat) : Int) = some x := rfl
      rw [hi, Option.bind_some, docOk_spec (M + 2) hM hN x.1 x.2.1 x.2.2 ho, hx, Option.bind_some]
      rfl
  unfold i_SortOf_m
  rw [hd, Option.bind_some, Bool.not_true, cond_false, keysOk_spec (M + 2) hM hN ks hk, Option.bind_some]
  refine Def.bif (fun _ => Def.ret fun _ => rfl) (fun e => ?_)
  have hk' : okKeys ks = true := by simpa using e
  refine Def.ite (room_of (by simp) (by simp)) ?_
  rw [List.nil_append, sortFunc_one (M + 2) x ks (by omega), Option.bind_some]
  have hid : i_idsOf_m (M + 2) [x] = some [x.1] := rfl
  rw [hid, Option.bind_some]
  exact Def.ret fun h => by rw [hk'] at h; cases h
theorem fnSortLess_law0 (N : Nat) (hM : Sm < N) (hN : N ≤ 1099511627776) (code more : List Int) (hb : Bs code) (hb2 : Bs more) : l_FnSortLess_m N code more = some true := by
  have hM' : 1048576 < N := hM
  refine Def.get ?_
  unfold l_FnSortLess_m
  refine Def.dif (fun _ => Def.ret rfl) (fun _ => ?_)
  refine Def.dif (fun _ => Def.ret rfl) (fun _ => ?_)
  refine Def.bind (drawLess_def N hb (by omega)) fun r ⟨oa, ob, ok⟩ => ?_
  refine Def.bind (drawLess_def N hb2 (by omega)) fun r2 ⟨od, _, _⟩ => ?_
  obtain ⟨a1, a2, a3, b1, b2, b3, ks⟩ := r
  obtain ⟨d1, d2, d3, r2⟩ := r2
  dsimp only at oa ob ok od ⊢
  have la : ∀ x y : EDoc, okD Sm TDoc x → okD Sm TDoc y → i_SortLess_m N x.1 x.2.1 x.2.2 y.1 y.2.1 y.2.2 ks = some (sortLess x y ks) := fun x y hx hy => implLess_spec N hM hN x y ks hx hy ok
  have hab := la (a1, a2, a3) (b1, b2, b3) oa ob
  have hba := la (b1, b2, b3) (a1, a2, a3) ob oa
  have hbd := la (b1, b2, b3) (d1, d2, d3) ob od
  have had := la (a1, a2, a3) (d1, d2, d3) oa od
  have hsp := specLess_spec N hM hN (a1, a2, a3) (b1, b2, b3) ks oa ob ok
  dsimp only at hab hba hbd had hsp
  have asym : sortLess (a1, a2, a3) (b1, b2, b3) ks = true → sortLess (b1, b2, b3) (a1, a2, a3) ks = false := fun h => by
    unfold sortLess at h ⊢
    simp only [Bool.and_eq_true] at h
    rw [lessK_asym _ _ _ h.2, Bool.and_false]
  have tot : okDoc (a1, a2, a3) = true → okDoc (b1, b2, b3) = true → okKeys ks = true → a1 ≠ b1 → sortLess (a1, a2, a3) (b1, b2, b3) ks = true ∨ sortLess (b1, b2, b3) (a1, a2, a3) ks = true := fun h1 h2 h3 h4 => by
    unfold sortLess
    rw [h1, h2, h3]
    exact lessK_total (a1, a2, a3) (b1, b2, b3) h4 ks
  have tra : sortLess (a1, a2, a3) (b1, b2, b3) ks = true → sortLess (b1, b2, b3) (d1, d2, d3) ks = true → sortLess (a1, a2, a3) (d1, d2, d3) ks = true := fun h1 h2 => by
    unfold sortLess at h1 h2 ⊢
    simp only [Bool.and_eq_true] at h1 h2 ⊢
    exact ⟨⟨⟨h1.1.1.1, h2.1.1.2⟩, h1.1.2⟩, lessK_trans _ _ _ _ h1.2 h2.2⟩
  rw [hab, hba, hsp, Option.bind_some, Option.bind_some, Option.bind_some, docOk_spec N hM hN a1 a2 a3 oa, docOk_spec N hM hN b1 b2 b3 ob, docOk_spec N hM hN d1 d2 d3 od, Option.bind_some]
  generalize hs1 : sortLess (a1, a2, a3) (b1, b2, b3) ks = s1 at *
  generalize hs2 : sortLess (b1, b2, b3) (a1, a2, a3) ks = s2 at *
  have weak : Def (bif s1 then some (!s2) else some true) fun r => r = true := by
    cases s1
    · exact Def.ret rfl
    · rw [asym rfl]; exact Def.ret rfl
  have be : (!(s1 == s1)) = false := by cases s1 <;> rfl
  rw [be, cond_false]
  refine Def.bif (fun _ => weak) (fun h6 => ?_)
  rw [Option.bind_some]
  refine Def.bif (fun _ => weak) (fun h7 => ?_)
  rw [Option.bind_some]
  refine Def.bif (fun _ => weak) (fun h8 => ?_)
  have h6 : okDoc (a1, a2, a3) = true := by simpa using h6
  have h7 : okDoc (b1, b2, b3) = true := by simpa using h7
  refine Def.bind (sortOf_one N hM hN (a1, a2, a3) ks oa ok h6) fun r9 h9 => ?_
  refine Def.dif (fun _ => weak) (fun h10 => ?_)
  have hk : okKeys ks = true := by
    cases e : okKeys ks with
    | true => rfl
    | false => exact absurd (by rw [h9 e]; rfl) h10
  have tail : Def (bif !s1 then some true else Option.bind (i_SortLess_m N b1 b2 b3 d1 d2 d3 ks) fun r10 => bif !r10 then some true else Option.bind (i_SortLess_m N a1 a2 a3 d1 d2 d3 ks) fun r11 => some r11) fun r => r = true := by
    rw [hbd, Option.bind_some, had, Option.bind_some]
    cases s1
    · exact Def.ret rfl
    · rw [Bool.not_true, cond_false]
      refine Def.bif (fun _ => Def.ret rfl) (fun h => Def.ret (tra rfl (by simpa using h)))
  have core : Def (bif decide (a1 = b1) then (bif !s1 then some true else Option.bind (i_SortLess_m N b1 b2 b3 d1 d2 d3 ks) fun r10 => bif !r10 then some true else Option.bind (i_SortLess_m N a1 a2 a3 d1 d2 d3 ks) fun r11 => some r11)
      else (bif s1 then (bif !s1 then some true else Option.bind (i_SortLess_m N b1 b2 b3 d1 d2 d3 ks) fun r10 => bif !r10 then some true else Option.bind (i_SortLess_m N a1 a2 a3 d1 d2 d3 ks) fun r11 => some r11)
        else (bif s2 then (bif !s1 then some true else Option.bind (i_SortLess_m N b1 b2 b3 d1 d2 d3 ks) fun r10 => bif !r10 then some true else Option.bind (i_SortLess_m N a1 a2 a3 d1 d2 d3 ks) fun r11 => some r11) else some false))) fun r => r = true := by
    refine Def.dif (fun _ => tail) (fun hne => ?_)
    refine Def.bif (fun _ => tail) (fun e1 => ?_)
    refine Def.bif (fun _ => tail) (fun e2 => ?_)
    rcases tot h6 h7 hk hne with h | h
    · rw [e1] at h; cases h
    · rw [e2] at h; cases h
  refine Def.bif (fun e1 => ?_) (fun _ => core)
  refine Def.bif (fun _ => core) (fun e2 => ?_)
  rw [asym e1] at e2; cases e2
theorem bytes_ok {code : List Int} (o : okD BigN (.sl (.int .u8)) code) : Bs code := fun x hx => by
  have h := o.2 x hx
  have e1 : IntKind.u8.min = 0 := by decide
  have e2 : IntKind.u8.max = 255 := by decide
  have h1 : IntKind.u8.min ≤ x := h.1
  have h2 : x ≤ IntKind.u8.max := h.2
  rw [e1] at h1
  rw [e2] at h2
  exact ⟨h1, h2⟩
theorem fnSortLess_law (code more : List Int) (o0 : okD BigN (.sl (.int .u8)) code) (o1 : okD BigN (.sl (.int .u8)) more) : l_FnSortLess_m 1048700 code more = some true := fnSortLess_law0 1048700 (by decide) (by decide) code more (bytes_ok o0) (bytes_ok o1)
end Go.Proofs.Ytjggioppicabbaa
