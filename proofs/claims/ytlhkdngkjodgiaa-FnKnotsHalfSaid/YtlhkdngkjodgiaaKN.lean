import Derived.Test.YtlhkdngkjodgiaaQ1
import Derived.Test.YtlhkdngkjodgiaaQO
import Derived.Test.YtlhkdngkjodgiaaP1
/- Plain laws: marking gives a result, and the mark grows by little. -/
set_option linter.unusedVariables false
set_option linter.unusedSimpArgs false
namespace Go.Proofs.Ytlhkdngkjodgiaa
open Go.RowKit
/-- Reading a place that was found. -/
theorem Def.at {α β : Type} {a : List α} {n : Nat} {f : α → Option β} {P : β → Prop} (hn : n < a.length) (h : Def (f a[n]) P) : Def (Option.bind (a[((n : Nat) : Int).toNat]?) f) P := by
  rw [Int.toNat_natCast, List.getElem?_eq_getElem hn]; exact h
theorem Def.atSet {α β : Type} {a : List α} {n : Nat} {v : α} {f : α → Option β} {P : β → Prop} (hn : n < a.length) (h : Def (f v) P) : Def (Option.bind ((a.set ((n : Nat) : Int).toNat v)[((n : Nat) : Int).toNat]?) f) P := by
  rw [Int.toNat_natCast, List.getElem?_eq_getElem (by rw [List.length_set]; exact hn), List.getElem_set_self]; exact h
theorem modify_set {α : Type} (a : List α) (n : Nat) (v : α) (f : α → α) : (a.set n v).modify n f = a.set n (f v) := by
  apply List.ext_getElem?
  intro i
  rw [List.getElem?_modify, List.getElem?_set, List.getElem?_set]
  by_cases e : n = i
  · subst e
    by_cases h : n < a.length
    · simp [h]
    · simp [h]
  · simp [e]
theorem set_set {α : Type} (a : List α) (n : Nat) (v w : α) : (a.set n v).set n w = a.set n w := List.set_set ..
/-- A loop that marks the members one by one. -/
theorem markTot {α : Type} {F : ((List α × Int × Int) → Option (Int × List α)) → (List α × Int × Int) → Option (Int × List α)} (N C : Nat) (Pre : α → Prop)
    (hend : ∀ go a k, F go (a, k, (a.length : Int)) = some (k, a))
    (hstep : ∀ go a (n : Nat) (hn : n < a.length) (k : Int) (P : (Int × List α) → Prop), (n : Int) ≤ 1099511627776 → Pre a[n] → 0 ≤ k → k + C ≤ 1000000000000000000 → (∀ x k', k ≤ k' → k' ≤ k + C → Def (go (a.set n x, k', (n : Int) + 1)) P) → Def (F go (a, k, (n : Int))) P)
    (xs : List α) (k : Int) (hk : 0 ≤ k) (hK : k + (C * xs.length : Nat) ≤ 1000000000000000000) (h : xs.length < N) (hN : N ≤ 1099511627776) (hP : ∀ x, x ∈ xs → Pre x) :
    Def (iter F N (xs, k, 0)) fun r => k ≤ r.1 ∧ r.1 ≤ k + (C * xs.length : Nat) := by
  refine Def.upto xs.length (fun n g => ∃ (a : List α) (k' : Int), a.length = xs.length ∧ (∀ m, n ≤ m → a[m]? = xs[m]?) ∧ k ≤ k' ∧ k' ≤ k + (C * n : Nat) ∧ g = (a, k', (n : Int))) ?_ ?_ N 0 _ (Nat.zero_le _) ⟨xs, k, rfl, fun _ _ => rfl, Int.le_refl _, by omega, rfl⟩ (by omega)
  · rintro go _ ⟨a, k', hl, _, h1, h2, rfl⟩
    rw [← hl, hend]
    exact Def.ret ⟨h1, by rw [hl]; exact h2⟩
  · rintro go n _ hn ⟨a, k', hl, ha, h1, h2, rfl⟩ hgo
    have hle : C * n + C ≤ C * xs.length := by
      have := Nat.mul_le_mul_left C (Nat.succ_le_of_lt hn)
      rw [Nat.mul_succ] at this; exact this
    have hel : a[n]'(by omega) = xs[n] := by
      have := ha n (Nat.le_refl _)
      rw [List.getElem?_eq_getElem (by omega), List.getElem?_eq_getElem hn] at this
      exact Option.some.inj this
    refine hstep go a n (by omega) k' _ (by omega) (by rw [hel]; exact hP _ (List.getElem_mem hn)) (by omega) (by omega) fun x k2 g1 g2 => hgo _ ⟨a.set n x, k2, by rw [List.length_set]; exact hl, fun m hm => ?_, by omega, ?_, by rw [cast_succ']⟩
    · rw [List.getElem?_set_ne (by omega)]; exact ha m (by omega)
    · rw [Nat.mul_succ]; omega
end Go.Proofs.Ytlhkdngkjodgiaa

/- Plain laws: points in order by an axis; both sorts give the same. -/
set_option linter.unusedVariables false
set_option linter.unusedSimpArgs false
namespace Go.Proofs.Ytlhkdngkjodgiaa
open Go.RowKit
abbrev Pt := Int × Int × Int
abbrev Kn := (Int × Int × Int) × Int × Int × Int × Int × Int
def lex3 (u v i u' v' i' : Int) : Bool := decide (u < u' ∨ (u = u' ∧ (v < v' ∨ (v = v' ∧ i < i'))))
/-- Ahead by X or by Y, then by the other, then by its number. -/
def lessP (byY : Bool) (a b : Pt) : Bool := bif byY then lex3 a.2.2 a.2.1 a.1 b.2.2 b.2.1 b.1 else lex3 a.2.1 a.2.2 a.1 b.2.1 b.2.2 b.1
theorem lex3_asym {u v i u' v' i' : Int} (h : lex3 u v i u' v' i' = true) : lex3 u' v' i' u v i = false := by
  unfold lex3 at *
  rw [decide_eq_true_eq] at h
  rw [decide_eq_false_iff_not]
  omega
theorem lex3_trans {u v i u' v' i' u2 v2 i2 : Int} (h : lex3 u v i u' v' i' = true) (h2 : lex3 u' v' i' u2 v2 i2 = true) : lex3 u v i u2 v2 i2 = true := by
  unfold lex3 at *
  rw [decide_eq_true_eq] at *
  omega
theorem lessP_ordr (byY : Bool) : Ordr (lessP byY) := by
  cases byY
  · exact ⟨fun x y h => lex3_asym h, fun x y z h1 h2 => lex3_trans h1 h2⟩
  · exact ⟨fun x y h => lex3_asym h, fun x y z h1 h2 => lex3_trans h1 h2⟩
theorem lessP_total (byY : Bool) (a b : Pt) (h : a.1 ≠ b.1) : lessP byY a b = true ∨ lessP byY b a = true := by
  unfold lessP lex3
  cases byY <;> simp only [cond_true, cond_false, decide_eq_true_eq] <;> omega
theorem l15Less_spec (N : Nat) (a b : Pt) (byY : Bool) : s_l15Less_m N a.1 a.2.1 a.2.2 b.1 b.2.1 b.2.2 byY = some (lessP byY a b) := by
  have key : ∀ u v i u' v' i' : Int, (bif (!decide (u = u')) then some (decide (u < u')) else bif (!decide (v = v')) then some (decide (v < v')) else some (decide (i < i'))) = some (lex3 u v i u' v' i') := fun u v i u' v' i' => by
    unfold lex3
    by_cases h1 : u = u'
    · subst h1
      rw [decide_eq_true rfl, Bool.not_true, cond_false]
      by_cases h2 : v = v'
      · subst h2
        rw [decide_eq_true rfl, Bool.not_true, cond_false]
        simp
      · rw [decide_eq_false h2, Bool.not_false, cond_true]
        simp [h2]
    · rw [decide_eq_false h1, Bool.not_false, cond_true]
      simp [h1]
  unfold s_l15Less_m lessP
  cases byY
  · exact key _ _ _ _ _ _
  · rw [cond_true, cond_true]
    rw [← key]
    by_cases h1 : a.2.2 = b.2.2
    · simp [h1]
    · simp [h1]
theorem compare_spec (N : Nat) (x y : Int) : k_cmp_Compare_992_m N x y = some (if x < y then -1 else if y < x then 1 else 0) := by
  unfold k_cmp_Compare_992_m
  have h : ∀ z : Int, k_cmp_isNaN_538_m N z = some false := fun z => by unfold k_cmp_isNaN_538_m; simp
  rw [h, h]
  simp only [Option.bind_some, cond_false]
  by_cases h1 : x < y
  · simp [h1]
  · by_cases h2 : y < x
    · simp [h1, h2]
    · simp [h1, h2]
theorem or_spec (N : Nat) (hN : 4 ≤ N) (x y z : Int) : k_cmp_Or_892_m N [x, y, z] = some (if x ≠ 0 then x else if y ≠ 0 then y else if z ≠ 0 then z else 0) := by
  have h := Def.upto (P := fun r => r = (if x ≠ 0 then x else if y ≠ 0 then y else if z ≠ 0 then z else 0)) 3 (fun n g => (∀ k (hk : k < n) (h3 : k < 3), [x, y, z][k] = 0) ∧ g = ((0 : Int), [x, y, z], (3 : Int), (n : Int)))
    (F := fun go g => match g with
      | (zero, t6, t7, t8) => bif decide (t8 < t7) then Option.bind (idx t6 t8) fun e => bif (!decide (e = zero)) then some e else (if fits (t8 + 1) then go (zero, t6, t7, t8 + 1) else none) else some zero) ?_ ?_ N 0 (0, [x, y, z], (3 : Int), 0) (Nat.zero_le _) ⟨fun k hk _ => absurd hk (Nat.not_lt_zero _), rfl⟩ (by omega)
  · obtain ⟨r, h1, h2⟩ := h
    subst h2
    exact h1
  · rintro go _ ⟨h0, rfl⟩
    have e0 : x = 0 := h0 0 (by omega) (by omega)
    have e1 : y = 0 := h0 1 (by omega) (by omega)
    have e2 : z = 0 := h0 2 (by omega) (by omega)
    subst e0; subst e1; subst e2
    exact ⟨0, rfl, by simp⟩
  · rintro go n _ hn ⟨h0, rfl⟩ hgo
    dsimp only
    rw [decide_eq_true (by omega : (n : Int) < 3), cond_true, idx_at (show n < [x, y, z].length from hn), Option.bind_some]
    by_cases e : [x, y, z][n] = 0
    · rw [decide_eq_true e, Bool.not_true, cond_false]
      refine Def.ite (fits_nat (n := n) (by omega)) (hgo _ ⟨fun k hk h3 => ?_, by rw [cast_succ']⟩)
      rcases Nat.lt_or_ge k n with h | h
      · exact h0 k h h3
      · have : k = n := by omega
        subst this; exact e
    · rw [decide_eq_false e, Bool.not_false, cond_true]
      refine Def.ret ?_
      rcases n with _ | _ | _ | n
      · rw [if_pos (show x ≠ 0 from e)]; rfl
      · have e0 : x = 0 := h0 0 (by omega) (by omega)
        rw [if_neg (by simp [e0]), if_pos (show y ≠ 0 from e)]; rfl
      · have e0 : x = 0 := h0 0 (by omega) (by omega)
        have e1 : y = 0 := h0 1 (by omega) (by omega)
        rw [if_neg (by simp [e0]), if_neg (by simp [e1]), if_pos (show z ≠ 0 from e)]; rfl
      · omega
theorem lex_cmp (u v i u' v' i' : Int) (r : Int) (h : r = (if (if u < u' then -1 else if u' < u then 1 else 0 : Int) ≠ 0 then (if u < u' then -1 else if u' < u then 1 else 0 : Int) else if (if v < v' then -1 else if v' < v then 1 else 0 : Int) ≠ 0 then (if v < v' then -1 else if v' < v then 1 else 0 : Int) else if (if i < i' then -1 else if i' < i then 1 else 0 : Int) ≠ 0 then (if i < i' then -1 else if i' < i then 1 else 0 : Int) else 0)) : decide (r < 0) = lex3 u v i u' v' i' := by
  subst h
  unfold lex3
  rw [decide_eq_decide]
  rcases Int.lt_trichotomy u u' with h1 | h1 | h1
  · simp [h1]
  · subst h1
    rcases Int.lt_trichotomy v v' with h2 | h2 | h2
    · simp [h2]
    · subst h2
      rcases Int.lt_trichotomy i i' with h3 | h3 | h3
      · simp [h3]
      · subst h3; simp
      · simp [h3, show ¬ i < i' from by omega]
    · simp [h2, show ¬ v < v' from by omega, show ¬ v = v' from by omega]
  · simp [h1, show ¬ u < u' from by omega, show ¬ u = u' from by omega]
theorem axis_def (N : Nat) (hN : 4 ≤ N) (a b : Pt) (level : Int) : Def (i_byAxis_1_m N a.1 a.2.1 a.2.2 b.1 b.2.1 b.2.2 level) fun r => decide (r < 0) = lessP (decide (level.tmod 2 = 1)) a b := by
  unfold i_byAxis_1_m lessP meet
  rw [compare_spec, Option.bind_some, compare_spec, Option.bind_some]
  dsimp only
  refine Def.ite (by omega) (Def.dif (fun e => ?_) (fun e => ?_))
  · rw [compare_spec, Option.bind_some, or_spec N hN, Option.bind_some, decide_eq_true e, cond_true]
    exact Def.ret (lex_cmp _ _ _ _ _ _ _ rfl)
  · rw [compare_spec, Option.bind_some, or_spec N hN, Option.bind_some, decide_eq_false e, cond_false]
    exact Def.ret (lex_cmp _ _ _ _ _ _ _ rfl)
/-! ### sorts -/
def InP (byY : Bool) (l : List Pt) : Prop := l.Pairwise fun a b => lessP byY a b = true
def OneId (l : List Pt) : Prop := (l.map (·.1)).Nodup
theorem OneId.perm {l m : List Pt} (h : OneId l) (hp : m.Perm l) : OneId m := (hp.map _).nodup_iff.2 h
theorem OneId.tot {l : List Pt} (h : OneId l) (byY : Bool) : l.Pairwise fun a b => lessP byY a b = true ∨ lessP byY b a = true := by
  unfold OneId List.Nodup at h
  rw [List.pairwise_map] at h
  exact h.imp fun {a b} hab => lessP_total byY a b hab
theorem inP_same {byY : Bool} {xs ys : List Pt} (h : xs.Perm ys) (hx : InP byY xs) (hy : InP byY ys) : xs = ys := by
  refine List.Perm.eq_of_pairwise (le := fun a b => lessP byY a b = true) (fun a b _ _ h1 h2 => ?_) hx hy h
  rw [(lessP_ordr byY).asym a b h1] at h2; cases h2
theorem implSort_def (N : Nat) (hN : N ≤ 16777216) (h5 : 5 < N) (l : List Pt) (level : Int) (ho : OneId l) (hl : l.length < N) : Def (k_slices_SortFunc_922_m N l level) fun r => r.Perm l ∧ InP (decide (level.tmod 2 = 1)) r :=
  sortAny_922 (lessP (decide (level.tmod 2 = 1))) (lessP_ordr _) N hN h5 l level ⟨fun x hx y hy => axis_def N (by omega) x y level, ho.tot _⟩ hl
theorem specSort_def (N : Nat) (hN : N ≤ 16777216) (l : List Pt) (byY : Bool) (ho : OneId l) (hl : l.length < N) : Def (s_l15Sort_m N l byY) fun r => r.Perm l ∧ InP byY r := by
  unfold s_l15Sort_m
  refine Def.upto l.length (fun n g => ∃ o, o.Perm (l.take n) ∧ InP byY o ∧ g = (l, byY, o, (n : Int))) ?_ ?_ N 0 _ (Nat.zero_le _) ⟨[], by simp, List.Pairwise.nil, rfl⟩ (by omega)
  · rintro go _ ⟨o, hp, ha, rfl⟩
    rw [List.take_length] at hp
    dsimp only
    rw [decide_eq_false (Int.lt_irrefl _), cond_false]
    exact Def.ret ⟨hp, ha⟩
  · rintro go n _ hn ⟨o, hp, ha, rfl⟩ hgo
    dsimp only
    have hll := hp.length_eq
    rw [List.length_take] at hll
    rw [decide_eq_true (by omega : (n : Int) < (l.length : Int)), cond_true]
    have hin : ∀ y, y ∈ o → y.1 ≠ l[n].1 := fun y hy e => by
      have hy' := hp.mem_iff.1 hy
      have hnd := ho
      unfold OneId at hnd
      rw [← List.take_append_drop n l, List.drop_eq_getElem_cons hn, List.map_append, List.map_cons] at hnd
      exact (List.nodup_append.1 hnd).2.2 y.1 (List.mem_map_of_mem hy') l[n].1 (by simp) e
    have put : ∀ (k : Nat), k ≤ o.length → (∀ y, y ∈ o.take k → lessP byY y l[n] = true) → (∀ y, y ∈ o.drop k → lessP byY l[n] y = true) →
        Def (Option.bind (cut o 0 (k : Int)) fun y => if room ([] : List Pt).length y.length 24 then Option.bind (idx l (n : Int)) fun e3 => if room (([] : List Pt) ++ y).length ([e3] : List Pt).length 24 then
          Option.bind (cut o (k : Int) (o.length : Int)) fun y2 => if room ((([] : List Pt) ++ y) ++ ([e3] : List Pt)).length y2.length 24 then (if fits ((n : Int) + 1) then go (l, byY, (((([] : List Pt) ++ y) ++ ([e3] : List Pt)) ++ y2), (n : Int) + 1) else none) else none else none else none)
          fun r => r.Perm l ∧ InP byY r := fun k hkl h1 h2 => by
      refine Def.cut (by omega) (by omega) (by omega) ?_
      have c1 : (o.take ((k : Int)).toNat).drop ((0 : Int)).toNat = o.take k := rfl
      rw [c1]
      refine Def.ite (room_of (by simp; omega) (by simp; omega)) ?_
      rw [idx_at hn, Option.bind_some]
      refine Def.ite (room_of (by simp; omega) (by simp; omega)) ?_
      refine Def.cut (by omega) (by omega) (by omega) ?_
      have c2 : (o.take ((o.length : Int)).toNat).drop ((k : Int)).toNat = o.drop k := by show (o.take o.length).drop k = o.drop k; rw [List.take_length]
      rw [c2]
      refine Def.ite (room_of (by simp; omega) (by simp; omega)) (Def.ite (fits_nat (n := n) (by omega)) (hgo _ ⟨_, ?_, ?_, by rw [cast_succ']⟩))
      · rw [List.nil_append, List.take_succ_eq_append_getElem hn, List.append_assoc]
        refine (List.Perm.append_left _ (List.perm_append_comm)).trans ?_
        rw [← List.append_assoc, List.take_append_drop]
        exact List.Perm.append_right _ hp
      · unfold InP at ha ⊢
        rw [List.nil_append, List.append_assoc, List.singleton_append]
        rw [← List.take_append_drop k o, List.pairwise_append] at ha
        rw [List.pairwise_append]
        refine ⟨ha.1, List.pairwise_cons.2 ⟨h2, ha.2.1⟩, fun a ha' b hb => ?_⟩
        rcases List.mem_cons.1 hb with rfl | hb
        · exact h1 a ha'
        · exact ha.2.2 a ha' b hb
    refine Def.upto o.length (fun k g => (∀ y, y ∈ o.take k → lessP byY y l[n] = true) ∧ g = (l, byY, o, (n : Int), (k : Int))) ?_ ?_ N 0 _ (Nat.zero_le _) ⟨fun y hy => by simp at hy, rfl⟩ (by omega)
    · rintro go2 _ ⟨h1, rfl⟩
      dsimp only
      rw [decide_eq_false (Int.lt_irrefl _), cond_false]
      exact put o.length (Nat.le_refl _) h1 (fun y hy => by rw [List.drop_length] at hy; cases hy)
    · rintro go2 k _ hkl ⟨h1, rfl⟩ hgo2
      dsimp only
      rw [decide_eq_true (by omega : (k : Int) < (o.length : Int)), cond_true, idx_at hkl, Option.bind_some, idx_at hn, Option.bind_some]
      have hy := hin _ (List.getElem_mem hkl)
      rw [l15Less_spec, Option.bind_some]
      refine Def.bif (fun er => ?_) (fun er => ?_)
      · refine Def.ite (fits_nat (n := k) (by omega)) (hgo2 _ ⟨fun y hy => ?_, by rw [cast_succ']⟩)
        rw [List.take_succ_eq_append_getElem hkl, List.mem_append, List.mem_singleton] at hy
        rcases hy with hy | rfl
        · exact h1 y hy
        · exact er
      · have hx : lessP byY l[n] o[k] = true := by
          rcases lessP_total byY o[k] l[n] hy with h | h
          · rw [er] at h; cases h
          · exact h
        have := put k (by omega) h1 (fun y hy => by
          rw [List.drop_eq_getElem_cons hkl, List.mem_cons] at hy
          rcases hy with rfl | hy
          · exact hx
          · unfold InP at ha
            rw [← List.take_append_drop k o, List.pairwise_append, List.drop_eq_getElem_cons hkl, List.pairwise_cons] at ha
            exact (lessP_ordr byY).trans _ _ _ hx (ha.2.1.1 y hy))
        rw [idx_at hn] at this
        exact this
theorem sort_same (N : Nat) (hN : N ≤ 16777216) (h5 : 5 < N) (l : List Pt) (level : Int) (byY : Bool) (hb : decide (level.tmod 2 = 1) = byY) (ho : OneId l) (hl : l.length < N) :
    ∃ r, k_slices_SortFunc_922_m N l level = some r ∧ s_l15Sort_m N l byY = some r ∧ r.Perm l := by
  obtain ⟨r, h1, h2, h3⟩ := implSort_def N hN h5 l level ho hl
  obtain ⟨r', h4, h5, h6⟩ := specSort_def N hN l byY ho hl
  rw [hb] at h3
  have e := inP_same (h2.trans h5.symm) h3 h6
  subst e
  exact ⟨r, h1, h4, h2⟩
end Go.Proofs.Ytlhkdngkjodgiaa

/- Plain laws: both builders give the same tree. -/
set_option linter.unusedVariables false
set_option linter.unusedSimpArgs false
namespace Go.Proofs.Ytlhkdngkjodgiaa
open Go.RowKit
def Mn (l : List Int) (v : Int) : Prop := v ∈ l ∧ ∀ y ∈ l, v ≤ y
def Mx (l : List Int) (v : Int) : Prop := v ∈ l ∧ ∀ y ∈ l, y ≤ v
theorem Mn.uniq {l : List Int} {v w : Int} (h : Mn l v) (g : Mn l w) : v = w := Int.le_antisymm (h.2 _ g.1) (g.2 _ h.1)
theorem Mx.uniq {l : List Int} {v w : Int} (h : Mx l v) (g : Mx l w) : v = w := Int.le_antisymm (g.2 _ h.1) (h.2 _ g.1)
theorem Mn.step {l : List Int} {v x w : Int} (h : Mn l v) (hw : (x < v ∧ w = x) ∨ (¬ x < v ∧ w = v)) : Mn (l ++ [x]) w := by
  refine ⟨?_, fun y hy => ?_⟩
  · rcases hw with ⟨_, rfl⟩ | ⟨_, rfl⟩
    · simp
    · exact List.mem_append_left _ h.1
  · rcases List.mem_append.1 hy with hy | hy
    · have := h.2 y hy; omega
    · have := List.mem_singleton.1 hy; omega
theorem Mx.step {l : List Int} {v x w : Int} (h : Mx l v) (hw : (v < x ∧ w = x) ∨ (¬ v < x ∧ w = v)) : Mx (l ++ [x]) w := by
  refine ⟨?_, fun y hy => ?_⟩
  · rcases hw with ⟨_, rfl⟩ | ⟨_, rfl⟩
    · simp
    · exact List.mem_append_left _ h.1
  · rcases List.mem_append.1 hy with hy | hy
    · have := h.2 y hy; omega
    · have := List.mem_singleton.1 hy; omega
theorem Mn.one (x : Int) : Mn [x] x := ⟨by simp, fun y hy => by rw [List.mem_singleton.1 hy]; exact Int.le_refl _⟩
theorem Mx.one (x : Int) : Mx [x] x := ⟨by simp, fun y hy => by rw [List.mem_singleton.1 hy]; exact Int.le_refl _⟩
theorem Mn.tail {l : List Int} {x v : Int} (h : Mn (x :: l) v) (hx : x ∈ l) : Mn l v := ⟨by rcases List.mem_cons.1 h.1 with e | e; (rw [e]; exact hx); exact e, fun y hy => h.2 y (List.mem_cons_of_mem _ hy)⟩
theorem Mx.tail {l : List Int} {x v : Int} (h : Mx (x :: l) v) (hx : x ∈ l) : Mx l v := ⟨by rcases List.mem_cons.1 h.1 with e | e; (rw [e]; exact hx); exact e, fun y hy => h.2 y (List.mem_cons_of_mem _ hy)⟩
/-- The four sides, from the first n points and one more. -/
def Bx (r : List Pt) (p : Pt) (n : Nat) (v1 v2 v3 v4 : Int) : Prop :=
  Mn (p.2.1 :: (r.take n).map (·.2.1)) v1 ∧ Mx (p.2.1 :: (r.take n).map (·.2.1)) v2 ∧ Mn (p.2.2 :: (r.take n).map (·.2.2)) v3 ∧ Mx (p.2.2 :: (r.take n).map (·.2.2)) v4
theorem Bx.zero (r : List Pt) (p : Pt) : Bx r p 0 p.2.1 p.2.1 p.2.2 p.2.2 := ⟨Mn.one _, Mx.one _, Mn.one _, Mx.one _⟩
theorem Bx.step {r : List Pt} {p : Pt} {n : Nat} (hn : n < r.length) {v1 v2 v3 v4 w1 w2 w3 w4 : Int} (h : Bx r p n v1 v2 v3 v4)
    (h1 : (r[n].2.1 < v1 ∧ w1 = r[n].2.1) ∨ (¬ r[n].2.1 < v1 ∧ w1 = v1)) (h2 : (v2 < r[n].2.1 ∧ w2 = r[n].2.1) ∨ (¬ v2 < r[n].2.1 ∧ w2 = v2))
    (h3 : (r[n].2.2 < v3 ∧ w3 = r[n].2.2) ∨ (¬ r[n].2.2 < v3 ∧ w3 = v3)) (h4 : (v4 < r[n].2.2 ∧ w4 = r[n].2.2) ∨ (¬ v4 < r[n].2.2 ∧ w4 = v4)) : Bx r p (n + 1) w1 w2 w3 w4 := by
  unfold Bx
  rw [List.take_succ_eq_append_getElem hn, List.map_append, List.map_append, List.map_singleton, List.map_singleton, ← List.cons_append, ← List.cons_append]
  exact ⟨h.1.step h1, h.2.1.step h2, h.2.2.1.step h3, h.2.2.2.step h4⟩
def Sides (r : List Pt) (v1 v2 v3 v4 : Int) : Prop := Mn (r.map (·.2.1)) v1 ∧ Mx (r.map (·.2.1)) v2 ∧ Mn (r.map (·.2.2)) v3 ∧ Mx (r.map (·.2.2)) v4
theorem Bx.sides {r : List Pt} {p : Pt} {v1 v2 v3 v4 : Int} (h : Bx r p r.length v1 v2 v3 v4) (hp : p ∈ r) : Sides r v1 v2 v3 v4 := by
  unfold Bx at h
  rw [List.take_length] at h
  have hx : p.2.1 ∈ r.map (·.2.1) := List.mem_map_of_mem (f := fun q : Pt => q.2.1) hp
  have hy : p.2.2 ∈ r.map (·.2.2) := List.mem_map_of_mem (f := fun q : Pt => q.2.2) hp
  exact ⟨h.1.tail hx, h.2.1.tail hx, h.2.2.1.tail hy, h.2.2.2.tail hy⟩
/-- One knot ahead of the two smaller trees. -/
def Fin (r : List Pt) (m : Nat) (hm : m < r.length) (tl tr : List Kn) (x : List Kn) : Prop := ∃ v1 v2 v3 v4, Sides r v1 v2 v3 v4 ∧ x = (r[m], (tl.length : Int), v1, v2, v3, v4) :: (tl ++ tr)
theorem Fin.uniq {r : List Pt} {m : Nat} {hm : m < r.length} {tl tr x y : List Kn} (h : Fin r m hm tl tr x) (g : Fin r m hm tl tr y) : x = y := by
  obtain ⟨v1, v2, v3, v4, s, rfl⟩ := h
  obtain ⟨w1, w2, w3, w4, t, rfl⟩ := g
  rw [s.1.uniq t.1, s.2.1.uniq t.2.1, s.2.2.1.uniq t.2.2.1, s.2.2.2.uniq t.2.2.2]
def Inside (k e : Kn) : Prop := k.2.2.1 ≤ e.1.2.1 ∧ e.1.2.1 ≤ k.2.2.2.1 ∧ k.2.2.2.2.1 ≤ e.1.2.2 ∧ e.1.2.2 ≤ k.2.2.2.2.2
inductive KT : List Kn → Prop
  | nil : KT []
  | node (k : Kn) (l r : List Kn) : k.2.1 = (l.length : Int) → (∀ e ∈ k :: (l ++ r), Inside k e) → KT l → KT r → KT (k :: (l ++ r))
theorem OneId.sub {l m : List Pt} (h : OneId l) (hs : m.Sublist l) : OneId m := List.Nodup.sublist (hs.map _) h
theorem half_cast (n : Nat) : ((n : Int)).tdiv 2 = ((n / 2 : Nat) : Int) := rfl
theorem odd_flip (level : Int) (h : 0 ≤ level) : decide ((level + 1).tmod 2 = 1) = !decide (level.tmod 2 = 1) := by
  rw [Int.tmod_eq_emod_of_nonneg h, Int.tmod_eq_emod_of_nonneg (by omega)]
  by_cases e : level % 2 = 1
  · rw [decide_eq_true e, decide_eq_false (by omega)]; rfl
  · rw [decide_eq_false e, decide_eq_true (by omega)]; rfl
theorem take_cut {α : Type} (l : List α) (m : Nat) : (l.take ((m : Int)).toNat).drop ((0 : Int)).toNat = l.take m := rfl
theorem drop_cut {α : Type} (l : List α) (m : Nat) : (l.take ((l.length : Int)).toNat).drop ((m : Int) + 1).toNat = l.drop (m + 1) := by
  show (l.take l.length).drop (m + 1) = _
  rw [List.take_length]
theorem i_step (N : Nat) (hN : N ≤ 16777216) (h5 : 1000 < N) (D : Nat) (list : List Pt) (r : List Pt) (hlen : r.length = list.length) (hl : list.length < 1000) (hz : ¬ list.length = 0) (hm : r.length / 2 < r.length) (tl tr : List Kn) (htl : tl.length = r.length / 2) (htr : tr.length ≤ r.length) (level : Int) (h0 : 0 ≤ level) (hlv : level + ((D + 1 : Nat) : Int) ≤ 100000000) (hs1 : k_slices_SortFunc_922_m N list level = some r) (l1 : i_knots_m N D (r.take (r.length / 2)) (level + 1) = some tl) (r1 : i_knots_m N D (r.drop (r.length / 2 + 1)) (level + 1) = some tr) :
    Def (i_knots_m N (D + 1) list level) (Fin r (r.length / 2) hm tl tr) := by
  rw [i_knots_m, decide_eq_false (by omega), cond_false]
  refine Def.ite (room_of (by simp; omega) (by simp; omega)) ?_
  rw [List.nil_append]
  unfold i_byAxis_m
  rw [Option.bind_some, hs1, Option.bind_some, half_cast]
  refine Def.ite (by decide) (Def.ite (by unfold fits; omega) (Def.ite (by omega) (Def.at hm ?_)))
  refine Def.upto r.length (fun n g => ∃ v1 v2 v3 v4, Bx r r[r.length / 2] n v1 v2 v3 v4 ∧ g = (level, r, ((r.length / 2 : Nat) : Int), r, (r.length : Int), (n : Int), r[r.length / 2].1, r[r.length / 2].2.1, r[r.length / 2].2.2, ((r.length / 2 : Nat) : Int), v1, v2, v3, v4)) ?_ ?_ N 0 _ (Nat.zero_le _) ⟨_, _, _, _, Bx.zero _ _, rfl⟩ (by omega)
  · rintro go _ ⟨v1, v2, v3, v4, hx, rfl⟩
    dsimp only
    rw [decide_eq_false (Int.lt_irrefl _), cond_false]
    refine Def.cut (by omega) (by omega) (by omega) ?_
    rw [take_cut]
    refine Def.ite (by unfold fits; omega) ?_
    rw [l1, Option.bind_some]
    refine Def.ite (room_of (by simp; omega) (by simp; omega)) (Def.ite (by unfold fits; omega) (Def.cut (by omega) (by omega) (by omega) ?_))
    rw [drop_cut]
    refine Def.ite (by unfold fits; omega) ?_
    rw [r1, Option.bind_some]
    refine Def.ite (room_of (by simp; omega) (by simp; omega)) (Def.ret ⟨v1, v2, v3, v4, hx.sides (List.getElem_mem hm), ?_⟩)
    rw [htl]; rfl
  · rintro go n _ hn ⟨v1, v2, v3, v4, hx, rfl⟩ hgo
    dsimp only
    rw [decide_eq_true (by omega : (n : Int) < (r.length : Int)), cond_true, idx_at hn, Option.bind_some]
    refine Def.ite (fits_nat (n := n) (by omega)) (hgo _ ⟨_, _, _, _, hx.step hn ?_ ?_ ?_ ?_, by rw [cast_succ']⟩)
    · split <;> omega
    · split <;> omega
    · split <;> omega
    · split <;> omega
theorem s_step (N : Nat) (hN : N ≤ 16777216) (h5 : 1000 < N) (D : Nat) (list : List Pt) (r : List Pt) (hlen : r.length = list.length) (hl : list.length < 1000) (hz : ¬ list.length = 0) (hm : r.length / 2 < r.length) (tl tr : List Kn) (htl : tl.length = r.length / 2) (htr : tr.length ≤ r.length) (byY : Bool) (hs2 : s_l15Sort_m N list byY = some r) (l2 : s_l15Build_m N D (r.take (r.length / 2)) (!byY) = some tl) (r2 : s_l15Build_m N D (r.drop (r.length / 2 + 1)) (!byY) = some tr) :
    Def (s_l15Build_m N (D + 1) list byY) (Fin r (r.length / 2) hm tl tr) := by
  rw [s_l15Build_m, decide_eq_false (by omega), cond_false]
  refine Def.meet (fun g => g = (r, byY)) (fun g hg => ?_) (fun J hJ => ?_)
  · subst hg
    dsimp only
    rw [half_cast]
    refine Def.ite (by decide) (Def.ite (by unfold fits; omega) ?_)
    refine Def.meet (fun g => g = (r, byY, ((r.length / 2 : Nat) : Int), tl)) (fun g hg => ?_) (fun J2 hJ2 => ?_)
    · subst hg
      dsimp only
      refine Def.meet (fun g => g = (r, ((r.length / 2 : Nat) : Int), tl, tr)) (fun g hg => ?_) (fun J3 hJ3 => ?_)
      · subst hg
        dsimp only
        have h0r : 0 < r.length := by omega
        have i0 : idx r 0 = some r[0] := idx_at h0r
        rw [i0, Option.bind_some, Option.bind_some, Option.bind_some, Option.bind_some]
        refine Def.upto r.length (fun n g => ∃ v1 v2 v3 v4, Bx r r[0] n v1 v2 v3 v4 ∧ g = (r, ((r.length / 2 : Nat) : Int), tl, tr, (n : Int), v1, v2, v3, v4)) ?_ ?_ N 0 _ (Nat.zero_le _) ⟨_, _, _, _, Bx.zero _ _, rfl⟩ (by omega)
        · rintro go _ ⟨v1, v2, v3, v4, hx, rfl⟩
          dsimp only
          rw [decide_eq_false (Int.lt_irrefl _), cond_false, idx_at hm, Option.bind_some]
          refine Def.ite (room_of (by simp; omega) (by simp; omega)) (Def.ite (room_of (by simp; omega) (by simp; omega)) (Def.ret ⟨v1, v2, v3, v4, hx.sides (List.getElem_mem h0r), rfl⟩))
        · rintro go n _ hn ⟨v1, v2, v3, v4, hx, rfl⟩ hgo
          dsimp only
          rw [decide_eq_true (by omega : (n : Int) < (r.length : Int)), cond_true]
          refine Def.meet (fun g => ∃ w1, ((r[n].2.1 < v1 ∧ w1 = r[n].2.1) ∨ (¬ r[n].2.1 < v1 ∧ w1 = v1)) ∧ g = (r, ((r.length / 2 : Nat) : Int), tl, tr, (n : Int), w1, v2, v3, v4)) (fun g hg => ?_) (fun J4 hJ4 => ?_)
          · obtain ⟨w1, hw1, rfl⟩ := hg
            dsimp only
            refine Def.meet (fun g => ∃ w2, ((v2 < r[n].2.1 ∧ w2 = r[n].2.1) ∨ (¬ v2 < r[n].2.1 ∧ w2 = v2)) ∧ g = (r, ((r.length / 2 : Nat) : Int), tl, tr, (n : Int), w1, w2, v3, v4)) (fun g hg => ?_) (fun J5 hJ5 => ?_)
            · obtain ⟨w2, hw2, rfl⟩ := hg
              dsimp only
              refine Def.meet (fun g => ∃ w3, ((r[n].2.2 < v3 ∧ w3 = r[n].2.2) ∨ (¬ r[n].2.2 < v3 ∧ w3 = v3)) ∧ g = (r, ((r.length / 2 : Nat) : Int), tl, tr, (n : Int), w1, w2, w3, v4)) (fun g hg => ?_) (fun J6 hJ6 => ?_)
              · obtain ⟨w3, hw3, rfl⟩ := hg
                dsimp only
                rw [idx_at hn, Option.bind_some, Option.bind_some]
                refine Def.dif (fun c => ?_) (fun c => ?_)
                · exact Def.ite (fits_nat (n := n) (by omega)) (hgo _ ⟨_, _, _, _, hx.step hn hw1 hw2 hw3 (Or.inl ⟨c, rfl⟩), by rw [cast_succ']⟩)
                · exact Def.ite (fits_nat (n := n) (by omega)) (hgo _ ⟨_, _, _, _, hx.step hn hw1 hw2 hw3 (Or.inr ⟨c, rfl⟩), by rw [cast_succ']⟩)
              · rw [idx_at hn, Option.bind_some, Option.bind_some]
                exact Def.dif (fun c => hJ6 _ ⟨_, Or.inl ⟨c, rfl⟩, rfl⟩) (fun c => hJ6 _ ⟨_, Or.inr ⟨c, rfl⟩, rfl⟩)
            · rw [idx_at hn, Option.bind_some, Option.bind_some]
              exact Def.dif (fun c => hJ5 _ ⟨_, Or.inl ⟨c, rfl⟩, rfl⟩) (fun c => hJ5 _ ⟨_, Or.inr ⟨c, rfl⟩, rfl⟩)
          · rw [idx_at hn, Option.bind_some, Option.bind_some]
            exact Def.dif (fun c => hJ4 _ ⟨_, Or.inl ⟨c, rfl⟩, rfl⟩) (fun c => hJ4 _ ⟨_, Or.inr ⟨c, rfl⟩, rfl⟩)
      · refine Def.ite (by unfold fits; omega) (Def.cut (by omega) (by omega) (by omega) ?_)
        rw [drop_cut, r2, Option.bind_some]
        exact hJ3 _ rfl
    · refine Def.cut (by omega) (by omega) (by omega) ?_
      rw [take_cut, l2, Option.bind_some]
      exact hJ2 _ rfl
  · rw [hs2, Option.bind_some]
    exact hJ _ rfl
theorem build_same (N : Nat) (hN : N ≤ 16777216) (h5 : 1000 < N) : ∀ (D : Nat) (list : List Pt) (level : Int) (byY : Bool), list.length < D → list.length < 1000 → OneId list → decide (level.tmod 2 = 1) = byY → 0 ≤ level → level + D ≤ 100000000 →
    ∃ t, i_knots_m N D list level = some t ∧ s_l15Build_m N D list byY = some t ∧ KT t ∧ (t.map (·.1)).Perm list ∧ ∀ e ∈ t, ∃ p ∈ list, p.2.1 = e.2.2.2.1 := by
  intro D
  induction D with
  | zero => intro list level byY h; omega
  | succ D ih =>
    intro list level byY hD hl ho hb h0 hlv
    by_cases hz : list.length = 0
    · have : list = [] := List.length_eq_zero_iff.1 hz
      subst this
      refine ⟨[], ?_, ?_, KT.nil, by simp, fun e he => by cases he⟩
      · rw [i_knots_m]; rfl
      · rw [s_l15Build_m]; rfl
    obtain ⟨r, hs1, hs2, hp⟩ := sort_same N hN (by omega) list level byY hb ho (by omega)
    have hlen : r.length = list.length := hp.length_eq
    have hm : r.length / 2 < r.length := by omega
    have hor : OneId r := ho.perm hp
    have hb' : decide ((level + 1).tmod 2 = 1) = !byY := by rw [odd_flip level h0, hb]
    obtain ⟨tl, l1, l2, l3, l4, l5⟩ := ih (r.take (r.length / 2)) (level + 1) (!byY) (by rw [List.length_take]; omega) (by rw [List.length_take]; omega) (hor.sub (List.take_sublist _ _)) hb' (by omega) (by omega)
    obtain ⟨tr, r1, r2, r3, r4, r5⟩ := ih (r.drop (r.length / 2 + 1)) (level + 1) (!byY) (by rw [List.length_drop]; omega) (by rw [List.length_drop]; omega) (hor.sub (List.drop_sublist _ _)) hb' (by omega) (by omega)
    have htl : tl.length = r.length / 2 := by have := l4.length_eq; rw [List.length_map, List.length_take] at this; omega
    have htr : tr.length ≤ r.length := by have := r4.length_eq; rw [List.length_map, List.length_drop] at this; omega
    have hfi := i_step N hN h5 D list r hlen hl hz hm tl tr htl htr level h0 (by omega) hs1 l1 r1
    have hfs := s_step N hN h5 D list r hlen hl hz hm tl tr htl htr byY hs2 l2 r2
    obtain ⟨t, e1, f1⟩ := hfi
    obtain ⟨t', e2, f2⟩ := hfs
    have := f1.uniq f2
    subst this
    obtain ⟨v1, v2, v3, v4, hs, rfl⟩ := f1
    have hpm : (((r[r.length / 2], (tl.length : Int), v1, v2, v3, v4) :: (tl ++ tr)).map (·.1)).Perm r := by
      rw [List.map_cons, List.map_append]
      refine ((l4.append r4).cons _).trans ?_
      refine (List.perm_middle.symm).trans ?_
      rw [← List.drop_eq_getElem_cons hm, List.take_append_drop]
    refine ⟨_, e1, e2, KT.node _ _ _ rfl (fun e he => ?_) l3 r3, hpm.trans hp, fun e he => ?_⟩
    · have he' : e.1 ∈ r := hpm.mem_iff.1 (List.mem_map_of_mem (f := fun q : Kn => q.1) he)
      have hx : e.1.2.1 ∈ r.map (·.2.1) := List.mem_map_of_mem (f := fun q : Pt => q.2.1) he'
      have hy : e.1.2.2 ∈ r.map (·.2.2) := List.mem_map_of_mem (f := fun q : Pt => q.2.2) he'
      exact ⟨hs.1.2 _ hx, hs.2.1.2 _ hx, hs.2.2.1.2 _ hy, hs.2.2.2.2 _ hy⟩
    · rcases List.mem_cons.1 he with rfl | he
      · obtain ⟨p, h1, h2⟩ := List.mem_map.1 hs.2.1.1
        exact ⟨p, hp.mem_iff.1 h1, h2⟩
      · rcases List.mem_append.1 he with he | he
        · obtain ⟨p, h1, h2⟩ := l5 e he
          exact ⟨p, hp.mem_iff.1 (List.mem_of_mem_take h1), h2⟩
        · obtain ⟨p, h1, h2⟩ := r5 e he
          exact ⟨p, hp.mem_iff.1 (List.mem_of_mem_drop h1), h2⟩
end Go.Proofs.Ytlhkdngkjodgiaa

/- Plain laws: both ways to ask whether knots are knots answer the same. -/
set_option linter.unusedVariables false
set_option linter.unusedSimpArgs false
namespace Go.Proofs.Ytlhkdngkjodgiaa
open Go.RowKit
def inB (n low high : Int) : Bool := decide (low ≤ n) && decide (n ≤ high)
theorem l1In_spec (N : Nat) (n low high : Int) : s_l1In_m N n low high = some (inB n low high) := by
  unfold s_l1In_m inB
  by_cases h : low ≤ n
  · rw [decide_eq_true h, cond_true, Bool.true_and]
  · rw [decide_eq_false h, cond_false, Bool.false_and]
theorem within_spec (N : Nat) (n low high : Int) : i_within_m N n low high = some (inB n low high) := by
  unfold i_within_m inB
  by_cases h : low ≤ n
  · rw [decide_eq_true h, cond_true, Bool.true_and]
  · rw [decide_eq_false h, cond_false, Bool.false_and]
def ptOk (p : Pt) : Bool := inB p.1 1 9999 && inB p.2.1 0 999 && inB p.2.2 0 999
theorem pointOk_spec (N : Nat) (p : Pt) : s_l15PointOk_m N p.1 p.2.1 p.2.2 = some (ptOk p) := by
  unfold s_l15PointOk_m ptOk
  rw [l1In_spec, l1In_spec, l1In_spec]
  simp only [Option.bind_some]
  cases inB p.1 1 9999 <;> cases inB p.2.1 0 999 <;> rfl
def GoodPts (l : List Pt) : Prop := (∀ p ∈ l, ptOk p = true) ∧ OneId l ∧ l.length ≤ 24
def PrePts (l : List Pt) : Prop := (∀ p ∈ l, ptOk p = true) ∧ OneId l
theorem PrePts.take {l : List Pt} (h : PrePts l) (n : Nat) : PrePts (l.take n) := ⟨fun p hp => h.1 p (List.mem_of_mem_take hp), h.2.sub (List.take_sublist _ _)⟩
theorem PrePts.succ {l : List Pt} {n : Nat} (hn : n < l.length) (h : PrePts (l.take n)) (h1 : ptOk l[n] = true) (h2 : ∀ p ∈ l.take n, p.1 ≠ l[n].1) : PrePts (l.take (n + 1)) := by
  rw [List.take_succ_eq_append_getElem hn]
  refine ⟨fun p hp => ?_, ?_⟩
  · rcases List.mem_append.1 hp with hp | hp
    · exact h.1 p hp
    · rw [List.mem_singleton.1 hp]; exact h1
  · unfold OneId
    rw [List.map_append, List.nodup_append]
    refine ⟨h.2, by simp, fun a ha b hb => ?_⟩
    obtain ⟨p, hp, rfl⟩ := List.mem_map.1 ha
    rw [List.map_singleton, List.mem_singleton] at hb
    subst hb
    exact h2 p hp
theorem PrePts.no {l : List Pt} {n : Nat} (hn : n < l.length) (p : Pt) (hp : p ∈ l.take n) (he : p.1 = l[n].1) : ¬ PrePts l := fun h => by
  have := (h.take (n + 1)).2
  unfold OneId at this
  rw [List.take_succ_eq_append_getElem hn, List.map_append, List.nodup_append] at this
  exact this.2.2 p.1 (List.mem_map_of_mem (f := fun q : Pt => q.1) hp) l[n].1 (by simp) he
theorem points_def (N : Nat) (hN : N ≤ 16777216) (l : List Pt) (hl : l.length < N) : Def (s_l15Points_m N l) fun r => r = true ↔ GoodPts l := by
  unfold s_l15Points_m
  refine Def.upto l.length (fun n g => PrePts (l.take n) ∧ g = (l, (n : Int))) ?_ ?_ N 0 _ (Nat.zero_le _) ⟨⟨fun p hp => by simp at hp, by simp [OneId]⟩, rfl⟩ (by omega)
  · rintro go _ ⟨hp, rfl⟩
    dsimp only
    rw [decide_eq_false (Int.lt_irrefl _), cond_false]
    rw [List.take_length] at hp
    refine Def.ret ?_
    rw [decide_eq_true_eq]
    exact ⟨fun h => ⟨hp.1, hp.2, by omega⟩, fun h => by have := h.2.2; omega⟩
  · rintro go n _ hn ⟨hp, rfl⟩ hgo
    dsimp only
    rw [decide_eq_true (by omega : (n : Int) < (l.length : Int)), cond_true, idx_at hn, Option.bind_some, pointOk_spec, Option.bind_some]
    refine Def.bif (fun e => ?_) (fun e => ?_)
    · refine Def.ret ⟨fun h => (by cases h), fun h => ?_⟩
      have := h.1 _ (List.getElem_mem hn)
      rw [this] at e; cases e
    · have e1 : ptOk l[n] = true := by cases h : ptOk l[n] with | true => rfl | false => rw [h] at e; cases e
      refine Def.upto n (fun k g => (∀ p ∈ (l.take n).take k, p.1 ≠ l[n].1) ∧ g = (l, (n : Int), (k : Int))) ?_ ?_ N 0 _ (Nat.zero_le _) ⟨fun p hp => by simp at hp, rfl⟩ (by omega)
      · rintro go2 _ ⟨h, rfl⟩
        dsimp only
        rw [decide_eq_false (Int.lt_irrefl _), cond_false]
        rw [List.take_take, Nat.min_self] at h
        exact Def.ite (fits_nat (n := n) (by omega)) (hgo _ ⟨hp.succ hn e1 h, by rw [cast_succ']⟩)
      · rintro go2 k _ hk ⟨h, rfl⟩ hgo2
        dsimp only
        rw [decide_eq_true (by omega : (k : Int) < (n : Int)), cond_true, idx_at (show k < l.length by omega), Option.bind_some, idx_at hn, Option.bind_some]
        have hkt : k < (l.take n).length := by rw [List.length_take]; omega
        have hek : (l.take n)[k] = l[k] := List.getElem_take ..
        refine Def.dif (fun c => ?_) (fun c => ?_)
        · refine Def.ret ⟨fun h => (by cases h), fun h => ?_⟩
          exact absurd ⟨h.1, h.2.1⟩ (PrePts.no hn l[k] (by rw [← hek]; exact List.getElem_mem hkt) c)
        · refine Def.ite (fits_nat (n := k) (by omega)) (hgo2 _ ⟨fun p hp => ?_, by rw [cast_succ']⟩)
          rw [List.take_succ_eq_append_getElem hkt, List.mem_append, List.mem_singleton, hek] at hp
          rcases hp with hp | rfl
          · exact h p hp
          · exact c
/-! ### the map of numbers -/
def seenId (b : List (Int × Bool)) (k : Int) : Bool := (mget (.int .i64) .bool b k).getD false
theorem mget_cons (e : Int × Bool) (l : List (Int × Bool)) (j : Int) : mget (.int .i64) .bool (e :: l) j = if j = e.1 then some e.2 else mget (.int .i64) .bool l j := by
  unfold mget
  rw [List.find?_cons]
  by_cases h : j = e.1
  · have : (Tp.int .i64).eqB j e.1 = true := by show decide (j = e.1) = true; exact decide_eq_true h
    rw [this, if_pos h]; rfl
  · have : (Tp.int .i64).eqB j e.1 = false := by show decide (j = e.1) = false; exact decide_eq_false h
    rw [this, if_neg h]
theorem mput_cons (e : Int × Bool) (l : List (Int × Bool)) (k : Int) (v : Bool) : mput (.int .i64) .bool (e :: l) k v = if k = e.1 then (k, v) :: l else e :: mput (.int .i64) .bool l k v := by
  rw [mput]
  by_cases h : k = e.1
  · have : (Tp.int .i64).eqB k e.1 = true := by show decide (k = e.1) = true; exact decide_eq_true h
    rw [this, if_pos h]; rfl
  · have : (Tp.int .i64).eqB k e.1 = false := by show decide (k = e.1) = false; exact decide_eq_false h
    rw [this, if_neg h]; rfl
theorem mget_mput (k j : Int) : ∀ b : List (Int × Bool), mget (.int .i64) .bool (mput (.int .i64) .bool b k true) j = if j = k then some true else mget (.int .i64) .bool b j
  | [] => by
    show mget (.int .i64) .bool [(k, true)] j = _
    rw [mget_cons]
  | e :: l => by
    rw [mput_cons, mget_cons e l]
    by_cases h : k = e.1
    · rw [if_pos h, mget_cons]
      subst h
      by_cases h2 : j = e.1
      · rw [if_pos h2, if_pos h2]
      · rw [if_neg h2, if_neg h2, if_neg h2]
    · rw [if_neg h, mget_cons, mget_mput k j l]
      by_cases h2 : j = e.1
      · subst h2
        rw [if_pos rfl, if_neg (fun e => h e.symm), if_pos rfl]
      · rw [if_neg h2, if_neg h2]
theorem seen_put (b : List (Int × Bool)) (k j : Int) : seenId (mput (.int .i64) .bool b k true) j = (decide (j = k) || seenId b j) := by
  unfold seenId
  rw [mget_mput]
  by_cases h : j = k
  · rw [if_pos h, decide_eq_true h]; rfl
  · rw [if_neg h, decide_eq_false h, Bool.false_or]
theorem knotsOf_def (N : Nat) (hN : N ≤ 16777216) (h5 : 1000 < N) (l : List Pt) (hl : l.length < N) :
    Def (i_KnotsOf_m N l) fun r => (GoodPts l → s_l15Build_m N N l false = some r ∧ KT r ∧ (r.map (·.1)).Perm l) ∧ (¬ GoodPts l → r = []) := by
  have nope : ∀ m : Option (List Kn), m = some [] → ¬ GoodPts l → Def m fun r => (GoodPts l → s_l15Build_m N N l false = some r ∧ KT r ∧ (r.map (·.1)).Perm l) ∧ (¬ GoodPts l → r = []) := fun m e h => ⟨[], e, fun g => absurd g h, fun _ => rfl⟩
  unfold i_KnotsOf_m
  refine Def.upto l.length (fun n g => ∃ b, PrePts (l.take n) ∧ (∀ j, seenId b j = true ↔ ∃ p ∈ l.take n, p.1 = j) ∧ g = (l, l, (l.length : Int), (n : Int), b)) ?_ ?_ N 0 _ (Nat.zero_le _) ⟨[], ⟨fun p hp => by simp at hp, by simp [OneId]⟩, fun j => by simp [seenId, mget], rfl⟩ (by omega)
  · rintro go _ ⟨b, hp, hb, rfl⟩
    dsimp only
    rw [List.take_length] at hp
    rw [decide_eq_false (Int.lt_irrefl _), cond_false]
    refine Def.dif (fun c => ?_) (fun c => ?_)
    · exact nope _ rfl fun h => by have := h.2.2; omega
    · have hg : GoodPts l := ⟨hp.1, hp.2, by omega⟩
      obtain ⟨t, h1, h2, h3, h4, _⟩ := build_same N hN h5 N l 0 false (by omega) (by omega) hp.2 rfl (by omega) (by omega)
      rw [h1, Option.bind_some]
      exact Def.ret ⟨fun _ => ⟨h2, h3, h4⟩, fun h => absurd hg h⟩
  · rintro go n _ hn ⟨b, hp, hb, rfl⟩ hgo
    dsimp only
    rw [decide_eq_true (by omega : (n : Int) < (l.length : Int)), cond_true, idx_at hn, Option.bind_some, within_spec, Option.bind_some]
    have bad : ptOk l[n] = false → ¬ GoodPts l := fun e h => by have := h.1 _ (List.getElem_mem hn); rw [e] at this; cases this
    have hok : ptOk l[n] = (inB l[n].1 1 9999 && inB l[n].2.1 0 999 && inB l[n].2.2 0 999) := rfl
    refine Def.bif (fun e => ?_) (fun e => ?_)
    · exact nope _ rfl (bad (by rw [hok]; cases h : inB l[n].1 1 9999 with | true => rw [h] at e; cases e | false => rfl))
    have e1 : inB l[n].1 1 9999 = true := by cases h : inB l[n].1 1 9999 with | true => rfl | false => rw [h] at e; cases e
    refine Def.bif (fun e => ?_) (fun e => ?_)
    · obtain ⟨p, hp1, hp2⟩ := (hb _).1 e
      exact nope _ rfl fun h => PrePts.no hn p hp1 hp2 ⟨h.1, h.2.1⟩
    have e0 : ∀ p ∈ l.take n, p.1 ≠ l[n].1 := fun p hp1 hp2 => by
      have := (hb l[n].1).2 ⟨p, hp1, hp2⟩
      unfold seenId at this
      rw [this] at e; cases e
    rw [within_spec, Option.bind_some]
    refine Def.bif (fun e => ?_) (fun e => ?_)
    · exact nope _ rfl (bad (by rw [hok, e1]; cases h : inB l[n].2.1 0 999 with | true => rw [h] at e; cases e | false => rfl))
    have e2 : inB l[n].2.1 0 999 = true := by cases h : inB l[n].2.1 0 999 with | true => rfl | false => rw [h] at e; cases e
    rw [within_spec, Option.bind_some]
    refine Def.bif (fun e => ?_) (fun e => ?_)
    · exact nope _ rfl (bad (by rw [hok, e1, e2]; cases h : inB l[n].2.2 0 999 with | true => rw [h] at e; cases e | false => rfl))
    have e3 : inB l[n].2.2 0 999 = true := by cases h : inB l[n].2.2 0 999 with | true => rfl | false => rw [h] at e; cases e
    refine Def.ite (fits_nat (n := n) (by omega)) (hgo _ ⟨_, hp.succ hn (by rw [hok, e1, e2, e3]; rfl) e0, fun j => ?_, by rw [cast_succ']⟩)
    rw [seen_put, Bool.or_eq_true, decide_eq_true_eq, hb j]
    have htk := List.take_succ_eq_append_getElem hn
    constructor
    · rintro (rfl | ⟨p, h1, h2⟩)
      · exact ⟨l[n], by rw [htk]; exact List.mem_append_right _ (List.mem_singleton.2 rfl), rfl⟩
      · exact ⟨p, by rw [htk]; exact List.mem_append_left _ h1, h2⟩
    · rintro ⟨p, h1, h2⟩
      rw [htk] at h1
      rcases List.mem_append.1 h1 with h1 | h1
      · exact Or.inr ⟨p, h1, h2⟩
      · rw [List.mem_singleton.1 h1] at h2; exact Or.inl h2.symm
/-! ### compared one by one -/
def eqKn (e e2 : Kn) : Bool := ((decide (e.1.1 = e2.1.1)) && ((decide (e.1.2.1 = e2.1.2.1)) && (decide (e.1.2.2 = e2.1.2.2)))) && ((decide (e.2.1 = e2.2.1)) && ((decide (e.2.2.1 = e2.2.2.1)) && ((decide (e.2.2.2.1 = e2.2.2.2.1)) && ((decide (e.2.2.2.2.1 = e2.2.2.2.2.1)) && (decide (e.2.2.2.2.2 = e2.2.2.2.2.2))))))
theorem eqKn_iff (e e2 : Kn) : eqKn e e2 = true ↔ e = e2 := by
  obtain ⟨⟨a, b, c⟩, d, f, g, h, i⟩ := e
  obtain ⟨⟨a', b', c'⟩, d', f', g', h', i'⟩ := e2
  simp only [eqKn, Bool.and_eq_true, decide_eq_true_eq, Prod.mk.injEq]
theorem take_ne {α : Type} {a b : List α} {n : Nat} (ha : n < a.length) (hb : n < b.length) (h : a[n] ≠ b[n]) : a ≠ b := fun e => by subst e; exact h rfl
theorem equal_def (N : Nat) (hN : N ≤ 16777216) (a b : List Kn) (hl : a.length < N) : Def (k_slices_Equal_186_m N a b) fun r => r = true ↔ a = b := by
  unfold k_slices_Equal_186_m
  refine Def.bif (fun e => ?_) (fun e => ?_)
  · refine Def.ret ⟨fun h => (by cases h), fun h => ?_⟩
    subst h
    rw [decide_eq_true rfl] at e; cases e
  · have hlen : a.length = b.length := by
      by_cases h : (a.length : Int) = (b.length : Int)
      · omega
      · rw [decide_eq_false h] at e; cases e
    refine Def.upto a.length (fun n g => a.take n = b.take n ∧ g = (a, b, (a.length : Int), (n : Int))) ?_ ?_ N 0 _ (Nat.zero_le _) ⟨rfl, rfl⟩ (by omega)
    · rintro go _ ⟨h, rfl⟩
      dsimp only
      rw [decide_eq_false (Int.lt_irrefl _), cond_false]
      rw [List.take_length, hlen, List.take_length] at h
      exact Def.ret ⟨fun _ => h, fun _ => rfl⟩
    · rintro go n _ hn ⟨h, rfl⟩ hgo
      dsimp only
      have hb : n < b.length := by omega
      rw [decide_eq_true (by omega : (n : Int) < (a.length : Int)), cond_true, idx_at hn, Option.bind_some, idx_at hb, Option.bind_some]
      show Def (bif (!eqKn a[n] b[n]) then _ else _) _
      refine Def.bif (fun e => ?_) (fun e => ?_)
      · refine Def.ret ⟨fun h => (by cases h), fun h => ?_⟩
        refine absurd h (take_ne hn hb fun h => ?_)
        rw [(eqKn_iff _ _).2 h] at e; cases e
      · have : eqKn a[n] b[n] = true := by cases h : eqKn a[n] b[n] with | true => rfl | false => rw [h] at e; cases e
        refine Def.ite (fits_nat (n := n) (by omega)) (hgo _ ⟨?_, by rw [cast_succ']⟩)
        rw [List.take_succ_eq_append_getElem hn, List.take_succ_eq_append_getElem hb, h, (eqKn_iff _ _).1 this]
theorem pointsIn_spec (N : Nat) (hN : N ≤ 16777216) (x : List Kn) (hl : x.length < N) : i_pointsIn_m N x = some (x.map (·.1)) := by
  refine Def.get ?_
  unfold i_pointsIn_m
  refine Def.upto x.length (fun n g => g = ((x.take n).map (·.1), x, (x.length : Int), (n : Int))) ?_ ?_ N 0 _ (Nat.zero_le _) rfl (by omega)
  · rintro go _ rfl
    dsimp only
    rw [decide_eq_false (Int.lt_irrefl _), cond_false, List.take_length]
    exact Def.ret rfl
  · rintro go n _ hn rfl hgo
    dsimp only
    rw [decide_eq_true (by omega : (n : Int) < (x.length : Int)), cond_true, idx_at hn, Option.bind_some]
    refine Def.ite (room_of (by simp; omega) (by simp; omega)) (Def.ite (fits_nat (n := n) (by omega)) (hgo _ ?_))
    rw [List.take_succ_eq_append_getElem hn, List.map_append, List.map_singleton, cast_succ']
theorem l15Ok_def (N : Nat) (hN : N ≤ 16777216) (h5 : 1000 < N) (x : List Kn) (hl : x.length < N) :
    Def (s_l15Ok_m N x) fun r => r = true ↔ GoodPts (x.map (·.1)) ∧ s_l15Build_m N N (x.map (·.1)) false = some x := by
  unfold s_l15Ok_m
  refine Def.upto x.length (fun n g => g = (x, (x.take n).map (·.1), (n : Int))) ?_ ?_ N 0 _ (Nat.zero_le _) rfl (by omega)
  · rintro go _ rfl
    dsimp only
    rw [decide_eq_false (Int.lt_irrefl _), cond_false, List.take_length]
    refine Def.bind (points_def N hN (x.map (·.1)) (by rw [List.length_map]; exact hl)) fun r hr => ?_
    refine Def.bif (fun e => ?_) (fun e => ?_)
    · refine Def.ret ⟨fun h => (by cases h), fun h => ?_⟩
      rw [hr.2 h.1] at e; cases e
    · have hg : GoodPts (x.map (·.1)) := hr.1 (by cases h : r with | true => rfl | false => rw [h] at e; cases e)
      obtain ⟨t, h1, h2, h3, h4, _⟩ := build_same N hN h5 N (x.map (·.1)) 0 false (by rw [List.length_map]; omega) (by have := hg.2.2; omega) hg.2.1 rfl (by omega) (by omega)
      rw [h2, Option.bind_some]
      have hlen : t.length = x.length := by have := h4.length_eq; rw [List.length_map, List.length_map] at this; exact this
      refine Def.upto x.length (fun n g => x.take n = t.take n ∧ g = (x, t, (n : Int))) ?_ ?_ N 0 _ (Nat.zero_le _) ⟨rfl, rfl⟩ (by omega)
      · rintro go2 _ ⟨h, rfl⟩
        dsimp only
        rw [decide_eq_false (Int.lt_irrefl _), cond_false]
        rw [List.take_length, ← hlen, List.take_length] at h
        exact Def.ret ⟨fun _ => ⟨hg, by rw [h]⟩, fun _ => rfl⟩
      · rintro go2 n _ hn ⟨h, rfl⟩ hgo2
        dsimp only
        have hb : n < t.length := by omega
        rw [decide_eq_true (by omega : (n : Int) < (x.length : Int)), cond_true, idx_at hn, Option.bind_some]
        refine Def.ite (by omega) (Def.at hb ?_)
        show Def (bif (!eqKn x[n] t[n]) then _ else _) _
        refine Def.bif (fun e => ?_) (fun e => ?_)
        · refine Def.ret ⟨fun h => (by cases h), fun h => ?_⟩
          refine absurd (Option.some.inj h.2).symm (take_ne hn hb fun h => ?_)
          rw [(eqKn_iff _ _).2 h] at e; cases e
        · have : eqKn x[n] t[n] = true := by cases h : eqKn x[n] t[n] with | true => rfl | false => rw [h] at e; cases e
          refine Def.ite (fits_nat (n := n) (by omega)) (hgo2 _ ⟨?_, by rw [cast_succ']⟩)
          rw [List.take_succ_eq_append_getElem hn, List.take_succ_eq_append_getElem hb, h, (eqKn_iff _ _).1 this]
  · rintro go n _ hn rfl hgo
    dsimp only
    rw [decide_eq_true (by omega : (n : Int) < (x.length : Int)), cond_true, idx_at hn, Option.bind_some]
    refine Def.ite (room_of (by simp; omega) (by simp; omega)) (Def.ite (fits_nat (n := n) (by omega)) (hgo _ ?_))
    rw [List.take_succ_eq_append_getElem hn, List.map_append, List.map_singleton, cast_succ']
theorem knotsOk_same (N : Nat) (hN : N ≤ 16777216) (h5 : 1000 < N) (x : List Kn) (hl : x.length < N) :
    ∃ ok, i_KnotsOk_m N x = some ok ∧ s_l15Ok_m N x = some ok ∧ (ok = true → KT x ∧ GoodPts (x.map (·.1))) := by
  obtain ⟨ok, e1, h1⟩ := l15Ok_def N hN h5 x hl
  have hx : Def (i_KnotsOk_m N x) fun r => r = true ↔ GoodPts (x.map (·.1)) ∧ s_l15Build_m N N (x.map (·.1)) false = some x := by
    unfold i_KnotsOk_m
    rw [pointsIn_spec N hN x hl, Option.bind_some]
    refine Def.bind (knotsOf_def N hN h5 (x.map (·.1)) (by rw [List.length_map]; exact hl)) fun r2 hr => ?_
    have hr2 : r2.length < N := by
      by_cases hg : GoodPts (x.map (·.1))
      · have := (hr.1 hg).2.2.length_eq; rw [List.length_map] at this; have := hg.2.2; omega
      · rw [hr.2 hg]; show 0 < N; omega
    refine Def.bind (equal_def N hN r2 x hr2) fun r3 h3 => Def.ret (h3.trans ⟨fun e => ?_, fun h => ?_⟩)
    · by_cases hg : GoodPts (x.map (·.1))
      · exact ⟨hg, by rw [(hr.1 hg).1, e]⟩
      · have := hr.2 hg
        rw [this] at e
        subst e
        exact absurd ⟨fun p hp => by simp at hp, by simp [OneId], by simp⟩ hg
    · have := (hr.1 h.1).1
      rw [h.2] at this
      exact (Option.some.inj this).symm
  obtain ⟨ok2, e2, h2⟩ := hx
  have : ok = ok2 := by
    cases ok <;> cases ok2
    · rfl
    · exact absurd (h1.2 (h2.1 rfl)) (by simp)
    · exact absurd (h2.2 (h1.1 rfl)) (by simp)
    · rfl
  subst this
  refine ⟨ok, e2, e1, fun e => ?_⟩
  obtain ⟨hg, hb⟩ := h1.1 e
  obtain ⟨t, g1, g2, g3, g4, _⟩ := build_same N hN h5 N (x.map (·.1)) 0 false (by rw [List.length_map]; omega) (by have := hg.2.2; omega) hg.2.1 rfl (by omega) (by omega)
  have : t = x := Option.some.inj (g2.symm.trans hb)
  subst this
  exact ⟨g3, hg⟩
end Go.Proofs.Ytlhkdngkjodgiaa

/- Plain laws: both searches find the same. -/
set_option linter.unusedVariables false
set_option linter.unusedSimpArgs false
namespace Go.Proofs.Ytlhkdngkjodgiaa
open Go.RowKit
def AscI (l : List Int) : Prop := l.Pairwise (· < ·)
theorem AscI.nodup {l : List Int} (h : AscI l) : l.Nodup := h.imp fun {a b} h e => by omega
theorem ascI_same {a b : List Int} (ha : AscI a) (hb : AscI b) (h : a.Perm b) : a = b :=
  List.Perm.eq_of_pairwise (le := fun x y : Int => x < y) (fun x y _ _ h1 h2 => by omega) ha hb h
theorem put_def (N : Nat) (hN : N ≤ 16777216) (l : List Int) (n : Int) (ha : AscI l) (hl : l.length < 10000) (hlN : l.length < N) :
    Def (s_l8Put_m N l n) fun r => AscI r ∧ (∀ i, i ∈ r ↔ i ∈ l ∨ i = n) ∧ r.length ≤ l.length + 1 := by
  have ins : ∀ k : Nat, k ≤ l.length → (∀ y ∈ l.take k, y < n) → (∀ y ∈ l.drop k, n < y) →
      Def (Option.bind (cut l 0 (k : Int)) fun y => if room ([] : List Int).length y.length 8 then if room (([] : List Int) ++ y).length ([n] : List Int).length 8 then
        Option.bind (cut l (k : Int) (l.length : Int)) fun y2 => if room ((([] : List Int) ++ y) ++ ([n] : List Int)).length y2.length 8 then some (((([] : List Int) ++ y) ++ ([n] : List Int)) ++ y2) else none else none else none)
      fun r => AscI r ∧ (∀ i, i ∈ r ↔ i ∈ l ∨ i = n) ∧ r.length ≤ l.length + 1 := fun k hk h1 h2 => by
    refine Def.cut (by omega) (by omega) (by omega) ?_
    rw [take_cut]
    refine Def.ite (room_of (by simp; omega) (by simp; omega)) (Def.ite (room_of (by simp; omega) (by simp; omega)) (Def.cut (by omega) (by omega) (by omega) ?_))
    have c2 : (l.take ((l.length : Int)).toNat).drop ((k : Int)).toNat = l.drop k := by show (l.take l.length).drop k = l.drop k; rw [List.take_length]
    rw [c2]
    refine Def.ite (room_of (by simp; omega) (by simp; omega)) (Def.ret ⟨?_, fun i => ?_, by simp; omega⟩)
    · unfold AscI at ha ⊢
      rw [List.nil_append, List.append_assoc, List.singleton_append]
      rw [← List.take_append_drop k l, List.pairwise_append] at ha
      rw [List.pairwise_append]
      refine ⟨ha.1, List.pairwise_cons.2 ⟨h2, ha.2.1⟩, fun a ha' b hb => ?_⟩
      rcases List.mem_cons.1 hb with rfl | hb
      · exact h1 a ha'
      · exact ha.2.2 a ha' b hb
    · rw [List.nil_append, List.mem_append, List.mem_append, List.mem_singleton]
      have : i ∈ l ↔ i ∈ l.take k ∨ i ∈ l.drop k := by rw [← List.mem_append, List.take_append_drop]
      rw [this]
      constructor
      · rintro ((h | h) | h)
        · exact Or.inl (Or.inl h)
        · exact Or.inr h
        · exact Or.inl (Or.inr h)
      · rintro ((h | h) | h)
        · exact Or.inl (Or.inl h)
        · exact Or.inr h
        · exact Or.inl (Or.inr h)
  unfold s_l8Put_m
  refine Def.upto l.length (fun k g => (∀ y ∈ l.take k, y < n) ∧ g = (l, n, (k : Int))) ?_ ?_ N 0 _ (Nat.zero_le _) ⟨fun y hy => by simp at hy, rfl⟩ (by omega)
  · rintro go _ ⟨h1, rfl⟩
    dsimp only
    rw [decide_eq_false (Int.lt_irrefl _), cond_false, cond_false]
    exact ins l.length (Nat.le_refl _) h1 (fun y hy => by rw [List.drop_length] at hy; cases hy)
  · rintro go k _ hk ⟨h1, rfl⟩ hgo
    dsimp only
    rw [decide_eq_true (by omega : (k : Int) < (l.length : Int)), cond_true, cond_true, idx_at hk, Option.bind_some, Option.bind_some]
    refine Def.dif (fun c => ?_) (fun c => Def.dif (fun c2 => ?_) (fun c2 => ?_))
    · refine Def.ite (fits_nat (n := k) (by omega)) (hgo _ ⟨fun y hy => ?_, by rw [cast_succ']⟩)
      rw [List.take_succ_eq_append_getElem hk, List.mem_append, List.mem_singleton] at hy
      rcases hy with hy | rfl
      · exact h1 y hy
      · exact c
    · refine Def.ret ⟨ha, fun i => ⟨Or.inl, fun h => ?_⟩, by omega⟩
      rcases h with h | rfl
      · exact h
      · rw [← c2]; exact List.getElem_mem hk
    · refine ins k (by omega) h1 fun y hy => ?_
      rw [List.drop_eq_getElem_cons hk, List.mem_cons] at hy
      rcases hy with rfl | hy
      · omega
      · unfold AscI at ha
        rw [← List.take_append_drop k l, List.pairwise_append, List.drop_eq_getElem_cons hk, List.pairwise_cons] at ha
        have := ha.2.1.1 y hy
        omega
theorem or_def (N : Nat) (hN : N ≤ 16777216) (a b : List Int) (ha : AscI a) (hl : a.length + b.length < 10000) (hlN : a.length + b.length < N) :
    Def (s_l8Or_m N a b) fun r => AscI r ∧ (∀ i, i ∈ r ↔ i ∈ a ∨ i ∈ b) ∧ r.length ≤ a.length + b.length := by
  unfold s_l8Or_m
  refine Def.ite (room_of (by simp; omega) (by simp; omega)) ?_
  refine Def.upto b.length (fun n g => ∃ o, AscI o ∧ (∀ i, i ∈ o ↔ i ∈ a ∨ i ∈ b.take n) ∧ o.length ≤ a.length + n ∧ g = (b, o, (n : Int))) ?_ ?_ N 0 _ (Nat.zero_le _) ⟨[] ++ a, by rw [List.nil_append]; exact ha, fun i => by simp, by simp, rfl⟩ (by omega)
  · rintro go _ ⟨o, h1, h2, h3, rfl⟩
    dsimp only
    rw [decide_eq_false (Int.lt_irrefl _), cond_false]
    rw [List.take_length] at h2
    exact Def.ret ⟨h1, h2, h3⟩
  · rintro go n _ hn ⟨o, h1, h2, h3, rfl⟩ hgo
    dsimp only
    rw [decide_eq_true (by omega : (n : Int) < (b.length : Int)), cond_true, idx_at hn, Option.bind_some]
    refine Def.bind (put_def N hN o b[n] h1 (by omega) (by omega)) fun r ⟨g1, g2, g3⟩ => ?_
    refine Def.ite (fits_nat (n := n) (by omega)) (hgo _ ⟨r, g1, fun i => ?_, by omega, by rw [cast_succ']⟩)
    have htk := List.take_succ_eq_append_getElem hn
    rw [g2, h2, htk, List.mem_append, List.mem_singleton]
    constructor
    · rintro ((h | h) | h)
      · exact Or.inl h
      · exact Or.inr (Or.inl h)
      · exact Or.inr (Or.inr h)
    · rintro (h | h | h)
      · exact Or.inl (Or.inl h)
      · exact Or.inl (Or.inr h)
      · exact Or.inr h
/-! ### the search -/
def apartB (a a2 a3 a4 b b2 b3 b4 : Int) : Bool := decide (a2 < b ∨ b2 < a ∨ a4 < b3 ∨ b4 < a3)
theorem apart_spec (N : Nat) (a a2 a3 a4 b b2 b3 b4 : Int) : s_l15Apart_m N a a2 a3 a4 b b2 b3 b4 = some (apartB a a2 a3 a4 b b2 b3 b4) := by
  unfold s_l15Apart_m apartB
  by_cases h1 : a2 < b
  · simp [h1]
  · by_cases h2 : b2 < a
    · simp [h1, h2]
    · by_cases h3 : a4 < b3
      · simp [h1, h2, h3]
      · simp [h1, h2, h3]
theorem in_spec (N : Nat) (p p2 p3 b b2 b3 b4 : Int) : s_l15In_m N p p2 p3 b b2 b3 b4 = some (inB p2 b b2 && inB p3 b3 b4) := by
  unfold s_l15In_m
  rw [l1In_spec, l1In_spec]
  cases inB p2 b b2 <;> rfl
theorem inBox_spec (N : Nat) (p p2 p3 b b2 b3 b4 : Int) : i_inBox_m N b b2 b3 b4 p p2 p3 = some (inB p2 b b2 && inB p3 b3 b4) := by
  unfold i_inBox_m
  rw [within_spec, within_spec]
  cases inB p2 b b2 <;> rfl
theorem cut_l (k : Kn) (l r : List Kn) (h : k.2.1 = (l.length : Int)) : cut (k :: (l ++ r)) 1 (1 + k.2.1) = some l := by
  unfold cut
  rw [h, if_pos (by simp; omega), show (1 + (l.length : Int)).toNat = l.length + 1 by omega]
  simp
theorem cut_r (k : Kn) (l r : List Kn) (h : k.2.1 = (l.length : Int)) : cut (k :: (l ++ r)) (1 + k.2.1) ((k :: (l ++ r)).length : Int) = some r := by
  unfold cut
  rw [h, if_pos (by simp; omega), show (1 + (l.length : Int)).toNat = l.length + 1 by omega, Int.toNat_natCast, List.take_length]
  simp
def outOf (c : Bool) (k : Kn) : List Int := bif c then [k.1.1] else []
def isIn (b b2 b3 b4 : Int) (e : Kn) : Bool := inB e.1.2.1 b b2 && inB e.1.2.2 b3 b4
def Found (b b2 b3 b4 : Int) (x : List Kn) (ids ids' : List Int) (c : Int) : Prop := ids = (x.filter (isIn b b2 b3 b4)).map (·.1.1) ∧ AscI ids' ∧ (∀ i, i ∈ ids' ↔ i ∈ ids) ∧ (ids.length : Int) ≤ c ∧ c ≤ (x.length : Int) ∧ ids'.length ≤ x.length
theorem find_same (N : Nat) (hN : N ≤ 16777216) (h5 : 10000 < N) (b b2 b3 b4 : Int) (x : List Kn) (hx : KT x) : ∀ (D : Nat), x.length < D → x.length ≤ 1000 →
    ∃ ids ids' c, i_find_m N D x b b2 b3 b4 = some (ids, c) ∧ s_l15Find_m N D x b b2 b3 b4 = some (ids', c) ∧ Found b b2 b3 b4 x ids ids' c := by
  induction hx with
  | nil =>
    intro D hD hl
    obtain ⟨D, rfl⟩ : ∃ M, D = M + 1 := ⟨D - 1, by simp at hD; omega⟩
    refine ⟨[], [], 0, ?_, ?_, rfl, List.Pairwise.nil, fun i => Iff.rfl, by simp, by simp, by simp⟩
    · rw [i_find_m]; rfl
    · rw [s_l15Find_m]; rfl
  | node k l r hk hb hl hr ihl ihr =>
    intro D hD hlen
    have hlen' : l.length + r.length + 1 ≤ 1000 := by rw [List.length_cons, List.length_append] at hlen; omega
    have hD' : l.length + r.length + 1 < D := by rw [List.length_cons, List.length_append] at hD; omega
    obtain ⟨D, rfl⟩ : ∃ M, D = M + 1 := ⟨D - 1, by omega⟩
    have hxl : ((k :: (l ++ r)).length : Int) = (l.length : Int) + (r.length : Int) + 1 := by rw [List.length_cons, List.length_append]; omega
    have hne : ¬ ((k :: (l ++ r)).length : Int) = 0 := by omega
    have i0 : idx (k :: (l ++ r)) 0 = some k := rfl
    obtain ⟨il, sl, cl, l1, l2, l3, l4, l5, l6, l7, l8⟩ := ihl D (by omega) (by omega)
    obtain ⟨ir, sr, cr, r1, r2, r3, r4, r5, r6, r7, r8⟩ := ihr D (by omega) (by omega)
    have hil : il.length ≤ l.length := by have := List.length_filter_le (isIn b b2 b3 b4) l; rw [l3, List.length_map]; exact this
    have hir : ir.length ≤ r.length := by have := List.length_filter_le (isIn b b2 b3 b4) r; rw [r3, List.length_map]; exact this
    cases ha : apartB k.2.2.1 k.2.2.2.1 k.2.2.2.2.1 k.2.2.2.2.2 b b2 b3 b4 with
    | true =>
      refine ⟨[], [], 0, ?_, ?_, ?_, List.Pairwise.nil, fun i => Iff.rfl, by simp, by omega, by simp⟩
      rotate_left 2
      · have : (k :: (l ++ r)).filter (isIn b b2 b3 b4) = [] := List.filter_eq_nil_iff.2 fun e he h => by
          have := hb e he
          unfold Inside at this
          unfold apartB at ha
          unfold isIn inB at h
          simp only [Bool.and_eq_true, decide_eq_true_eq] at h ha
          omega
        rw [this]; rfl
      · rw [i_find_m, decide_eq_false hne, cond_false, i0, Option.bind_some]
        unfold apartB at ha
        rw [decide_eq_true_eq] at ha
        by_cases c1 : b2 < k.2.2.1
        · rw [decide_eq_true c1, cond_true]
        · rw [decide_eq_false c1, cond_false]
          by_cases c2 : k.2.2.2.1 < b
          · rw [decide_eq_true c2, cond_true]
          · rw [decide_eq_false c2, cond_false]
            by_cases c3 : b4 < k.2.2.2.2.1
            · rw [decide_eq_true c3, cond_true]
            · rw [decide_eq_false c3, cond_false, decide_eq_true (by omega), cond_true]
      · rw [s_l15Find_m, decide_eq_false hne, cond_false, i0, Option.bind_some, apart_spec, Option.bind_some, ha, cond_true]
    | false =>
      have ho1 : ∀ c, (outOf c k).length ≤ 1 := fun c => by cases c <;> simp [outOf]
      have hi : Def (i_find_m N (D + 1) (k :: (l ++ r)) b b2 b3 b4) fun q => q = (outOf (isIn b b2 b3 b4 k) k ++ il ++ ir, 1 + cl + cr) := by
        rw [i_find_m, decide_eq_false hne, cond_false, i0, Option.bind_some]
        unfold apartB at ha
        rw [decide_eq_false_iff_not] at ha
        rw [decide_eq_false (by omega), cond_false, decide_eq_false (by omega), cond_false, decide_eq_false (by omega), cond_false, decide_eq_false (by omega), cond_false]
        refine Def.meet (fun g => g = (k :: (l ++ r), outOf (isIn b b2 b3 b4 k) k, b, b2, b3, b4, k.1.1, k.1.2.1, k.1.2.2, k.2.1, k.2.2.1, k.2.2.2.1, k.2.2.2.2.1, k.2.2.2.2.2)) (fun g hg => ?_) (fun J hJ => ?_)
        · subst hg
          dsimp only
          have ho := ho1 (isIn b b2 b3 b4 k)
          refine Def.ite (by unfold fits; omega) ?_
          rw [cut_l k l r hk, Option.bind_some, l1, Option.bind_some]
          refine Def.ite (by unfold fits; omega) ?_
          rw [cut_r k l r hk, Option.bind_some, r1, Option.bind_some]
          dsimp only
          exact Def.ite (room_of (by omega) (by omega)) (Def.ite (room_of (by rw [List.length_append]; omega) (by rw [List.length_append]; omega)) (Def.ite (by unfold fits; omega) (Def.ite (by unfold fits; omega) (Def.ret rfl))))
        · rw [inBox_spec, Option.bind_some]
          show Def (bif isIn b b2 b3 b4 k then _ else _) _
          refine Def.bif (fun e => ?_) (fun e => ?_)
          · exact Def.ite (room_of (by simp) (by simp)) (hJ _ (by rw [e]; rfl))
          · exact hJ _ (by rw [e]; rfl)
      have hs : Def (s_l15Find_m N (D + 1) (k :: (l ++ r)) b b2 b3 b4) fun q => q.2 = 1 + cl + cr ∧ AscI q.1 ∧ (∀ i, i ∈ q.1 ↔ i ∈ outOf (isIn b b2 b3 b4 k) k ∨ i ∈ sl ∨ i ∈ sr) ∧ q.1.length ≤ l.length + r.length + 1 := by
        rw [s_l15Find_m, decide_eq_false hne, cond_false, i0, Option.bind_some, apart_spec, Option.bind_some, ha, cond_false]
        refine Def.meet (fun g => g = (k :: (l ++ r), outOf (isIn b b2 b3 b4 k) k, b, b2, b3, b4)) (fun g hg => ?_) (fun J hJ => ?_)
        · subst hg
          dsimp only
          have ho := ho1 (isIn b b2 b3 b4 k)
          rw [i0, Option.bind_some]
          refine Def.ite (by unfold fits; omega) ?_
          rw [cut_l k l r hk, Option.bind_some, l2, Option.bind_some, Option.bind_some]
          refine Def.ite (by unfold fits; omega) ?_
          rw [cut_r k l r hk, Option.bind_some, r2, Option.bind_some]
          dsimp only
          refine Def.bind (or_def N hN _ sl (by cases (isIn b b2 b3 b4 k) <;> simp [outOf, AscI]) (by omega) (by omega)) fun q ⟨q1, q2, q3⟩ => ?_
          refine Def.bind (or_def N hN q sr q1 (by omega) (by omega)) fun p ⟨p1, p2, p3⟩ => ?_
          refine Def.ite (by unfold fits; omega) (Def.ite (by unfold fits; omega) (Def.ret ⟨by show cl + cr + 1 = 1 + cl + cr; omega, p1, fun i => ?_, by show p.length ≤ _; omega⟩))
          show i ∈ p ↔ _
          rw [p2, q2, or_assoc]
        · rw [Option.bind_some, in_spec, Option.bind_some]
          show Def (bif isIn b b2 b3 b4 k then _ else _) _
          refine Def.bif (fun e => ?_) (fun e => ?_)
          · rw [Option.bind_some]
            exact Def.ite (room_of (by simp) (by simp)) (hJ _ (by rw [e]; rfl))
          · exact hJ _ (by rw [e]; rfl)
      obtain ⟨q, s1, s2, s3, s4, s5⟩ := hs
      have ho := ho1 (isIn b b2 b3 b4 k)
      refine ⟨_, q.1, 1 + cl + cr, Def.get hi, ?_, ?_, s3, fun i => ?_, by rw [List.length_append, List.length_append]; omega, by omega, by rw [List.length_cons, List.length_append]; omega⟩
      · rw [s1, ← s2]
      · rw [List.filter_cons, List.filter_append, l3, r3]
        cases isIn b b2 b3 b4 k with
        | true => rw [if_pos rfl, List.map_cons, List.map_append]; show [k.1.1] ++ _ ++ _ = _; rw [List.append_assoc, List.singleton_append]
        | false => rw [if_neg (by decide), List.map_append]; show ([] : List Int) ++ _ ++ _ = _; rw [List.nil_append]
      · rw [s4, l5, r5, List.mem_append, List.mem_append, or_assoc]
/-! ### both whole -/
theorem boxOk_spec (N : Nat) (b b2 b3 b4 : Int) : i_BoxOk_m N b b2 b3 b4 = s_l15BoxOk_m N b b2 b3 b4 := by
  unfold i_BoxOk_m s_l15BoxOk_m
  rw [within_spec, within_spec, within_spec, within_spec, l1In_spec, l1In_spec, l1In_spec, l1In_spec]
theorem boxOk_some (N : Nat) (b b2 b3 b4 : Int) : ∃ ok, s_l15BoxOk_m N b b2 b3 b4 = some ok := by
  unfold s_l15BoxOk_m
  rw [l1In_spec, l1In_spec, l1In_spec, l1In_spec]
  cases inB b 0 999 <;> cases inB b2 b 999 <;> cases inB b3 0 999 <;> exact ⟨_, rfl⟩
def ltI (x y : Int) : Bool := decide (x < y)
theorem ltI_ordr : Ordr ltI := ⟨fun x y h => by unfold ltI at *; rw [decide_eq_true_eq] at h; rw [decide_eq_false_iff_not]; omega, fun x y z h1 h2 => by unfold ltI at *; rw [decide_eq_true_eq] at *; omega⟩
theorem less_spec (N : Nat) (x y : Int) : k_cmp_Less_67_m N x y = some (ltI x y) := by
  unfold k_cmp_Less_67_m ltI
  have h : ∀ z : Int, k_cmp_isNaN_538_m N z = some false := fun z => by unfold k_cmp_isNaN_538_m; simp
  rw [h]; rfl
theorem sortI_def (N : Nat) (hN : N ≤ 16777216) (h5 : 5 < N) (l : List Int) (hd : l.Nodup) (hl : l.length < N) : Def (k_slices_Sort_287_m N l) fun r => r.Perm l ∧ AscI r := by
  refine (sort_287 ltI ltI_ordr N hN h5 l ⟨fun x hx y hy => ?_, ?_⟩ hl).mono fun r hr => ⟨hr.1, hr.2.imp fun {a b} h => of_decide_eq_true h⟩
  · exact Def.eq (less_spec N x y)
  · exact hd.imp fun {a b} h => by
      unfold ltI
      rw [decide_eq_true_eq, decide_eq_true_eq]
      omega
theorem knotsFind_same (N : Nat) (hN : N ≤ 16777216) (h5 : 10000 < N) (x : List Kn) (hl : x.length < N) (b b2 b3 b4 : Int) :
    ∃ r, i_KnotsFind_m N x b b2 b3 b4 = some r ∧ s_KnotsFind_m N x b b2 b3 b4 = some r ∧ AscI r.1 ∧ r.1.length ≤ 24 ∧
      (0 ≤ r.2 → GoodPts (x.map (·.1)) ∧ r.1.Perm ((x.filter (isIn b b2 b3 b4)).map (·.1.1)) ∧ (r.1.length : Int) ≤ r.2 ∧ r.2 ≤ (x.length : Int)) := by
  obtain ⟨ok, e1, e2, h⟩ := knotsOk_same N hN (by omega) x hl
  obtain ⟨ok2, e3⟩ := boxOk_some N b b2 b3 b4
  unfold i_KnotsFind_m s_KnotsFind_m
  rw [e1, e2, Option.bind_some, Option.bind_some, boxOk_spec, e3]
  cases ok with
  | false => exact ⟨([], -1), rfl, rfl, List.Pairwise.nil, by simp, fun h => absurd h (by decide)⟩
  | true =>
    cases ok2 with
    | false => exact ⟨([], -1), rfl, rfl, List.Pairwise.nil, by simp, fun h => absurd h (by decide)⟩
    | true =>
      obtain ⟨hk, hg⟩ := h rfl
      have h24 : x.length ≤ 24 := by have := hg.2.2; rw [List.length_map] at this; exact this
      obtain ⟨ids, ids', c, f1, f2, g1, g2, g3, g4, g5, g6⟩ := find_same N hN h5 b b2 b3 b4 x hk N hl (by omega)
      simp only [Bool.not_true, cond_false, Option.bind_some, f1, f2]
      have hnd : ids.Nodup := by
        have ho := hg.2.1
        unfold OneId at ho
        rw [List.map_map] at ho
        rw [g1]
        exact List.Nodup.sublist (List.filter_sublist.map _) ho
      have hlen : ids.length ≤ 24 := by have := List.length_filter_le (isIn b b2 b3 b4) x; rw [g1, List.length_map]; omega
      obtain ⟨r, s1, s2, s3⟩ := sortI_def N hN (by omega) ids hnd (by omega)
      have hp : ids'.Perm ids := (List.perm_ext_iff_of_nodup g2.nodup hnd).2 g3
      have : ids' = r := ascI_same g2 s3 (hp.trans s2.symm)
      subst this
      rw [s1, Option.bind_some]
      have hll := hp.length_eq
      exact ⟨_, rfl, rfl, g2, by show ids'.length ≤ 24; omega, fun _ => ⟨hg, by rw [← g1]; exact hp, by show (ids'.length : Int) ≤ c; omega, g5⟩⟩
end Go.Proofs.Ytlhkdngkjodgiaa

/- The law FnExactKnotsFind, in plain Lean. -/
set_option linter.unusedVariables false
set_option linter.unusedSimpArgs false
namespace Go.Proofs.Ytlhkdngkjodgiaa
open Go.RowKit
theorem toKnotS_spec (N : Nat) (hN : N ≤ 16777216) (x : List Kn) (h : x.length < N) : l_toKnotS_m N x = some x := by
  refine Def.get ?_
  unfold l_toKnotS_m
  refine Def.ite (by omega) ?_
  refine Def.upto x.length (fun n g => ∃ o : List Kn, o.length = x.length ∧ o.take n = x.take n ∧ g = (x, o, (n : Int))) ?_ ?_ N 0 _ (Nat.zero_le _) ⟨List.replicate ((x.length : Int)).toNat ((0, 0, 0), 0, 0, 0, 0, 0), by simp, by simp, rfl⟩ (by omega)
  · rintro go _ ⟨o, h1, h2, rfl⟩
    dsimp only
    rw [decide_eq_false (Int.lt_irrefl _), cond_false]
    rw [← h1, List.take_length, h1, List.take_length] at h2
    exact Def.ret h2
  · rintro go n _ hn ⟨o, h1, h2, rfl⟩ hgo
    dsimp only
    rw [decide_eq_true (by omega : (n : Int) < (x.length : Int)), cond_true, idx_at hn, Option.bind_some]
    unfold l_toKnot_m l_toPoint_m l_toBox_m
    rw [Option.bind_some, Option.bind_some, Option.bind_some]
    have hno : n < o.length := by omega
    refine Def.ite (by omega) (Def.at hno (Def.ite (fits_nat (n := n) (by omega)) (hgo _ ⟨o.set n x[n], by rw [List.length_set]; exact h1, ?_, ?_⟩)))
    · rw [List.take_succ_eq_append_getElem (by rw [List.length_set]; exact hno), List.take_succ_eq_append_getElem hn, List.getElem_set_self, ← h2, List.take_set_of_le (Nat.le_refl _)]
    · rw [Int.toNat_natCast, cast_succ']
theorem szKnotS_def (N : Nat) (x : List Kn) (h : x.length ≤ 9223372036854775807) : Def (l_szKnotS_m N x 1048576) fun r => r = -1 ∨ (0 ≤ r ∧ x.length ≤ 1048576) := by
  unfold l_szKnotS_m
  exact Def.ite (by unfold fits; omega) (Def.dif (fun c => Def.ret (.inl rfl)) (fun c => Def.ret (.inr ⟨by omega, by omega⟩)))
theorem eqKnot_refl (N : Nat) (e : Kn) : l_eqKnot_m N e.1.1 e.1.2.1 e.1.2.2 e.2.1 e.2.2.1 e.2.2.2.1 e.2.2.2.2.1 e.2.2.2.2.2 e.1.1 e.1.2.1 e.1.2.2 e.2.1 e.2.2.1 e.2.2.2.1 e.2.2.2.2.1 e.2.2.2.2.2 = some true := by
  unfold l_eqKnot_m l_eqPoint_m l_eqBox_m
  simp
theorem eqKnotS_refl (N : Nat) (hN : N ≤ 16777216) (x : List Kn) (h : x.length < N) : l_eqKnotS_m N x x = some true := by
  refine Def.get ?_
  unfold l_eqKnotS_m
  rw [decide_eq_true rfl, Bool.not_true, cond_false]
  refine Def.upto x.length (fun n g => g = (x, x, (n : Int))) ?_ ?_ N 0 _ (Nat.zero_le _) rfl (by omega)
  · rintro go _ rfl
    dsimp only
    rw [decide_eq_false (Int.lt_irrefl _), cond_false]
    exact Def.ret rfl
  · rintro go n _ hn rfl hgo
    dsimp only
    rw [decide_eq_true (by omega : (n : Int) < (x.length : Int)), cond_true, idx_at hn, Option.bind_some, Option.bind_some, eqKnot_refl, Option.bind_some, Bool.not_true, cond_false]
    exact Def.ite (fits_nat (n := n) (by omega)) (hgo _ (by rw [cast_succ']))
theorem Def.at0 {α β : Type} {a : List α} {n : Nat} {f : α → Option β} {P : β → Prop} (hn : n < a.length) (h : Def (f a[n]) P) : Def (Option.bind (a[n]?) f) P := by
  rw [List.getElem?_eq_getElem hn]; exact h
theorem Def.atSet0 {α β : Type} {a : List α} {n : Nat} {v : α} {f : α → Option β} {P : β → Prop} (hn : n < a.length) (h : Def (f v) P) : Def (Option.bind ((a.set n v)[n]?) f) P := by
  rw [List.getElem?_eq_getElem (by rw [List.length_set]; exact hn), List.getElem_set_self]; exact h
theorem markKnotS_def (N : Nat) (hN : N ≤ 16777216) (a : List Kn) (hl : a.length < N) : Def (l_markKnotS_m N a 1) fun r => 1 ≤ r.1 := by
  unfold l_markKnotS_m
  refine (markTot N 8 (fun _ => True) (fun go a k => ?_) (fun go a n hn k P hn0 _ hk hK h => ?_) a 1 (by omega) (by omega) hl (by omega) (fun _ _ => True.intro)).mono fun r hr => hr.1
  · dsimp only
    rw [decide_eq_false (Int.lt_irrefl _), cond_false]
  · dsimp only
    rw [decide_eq_true (by omega : (n : Int) < (a.length : Int)), cond_true]
    simp only [Int.toNat_natCast, set_set]
    refine Def.ite (by omega) (Def.at0 hn (Def.ite (by unfold fits; omega) ?_))
    refine Def.ite (by rw [List.length_set]; omega) (Def.atSet0 hn (Def.ite (by unfold fits; omega) ?_))
    refine Def.ite (by rw [List.length_set]; omega) (Def.atSet0 hn (Def.ite (by unfold fits; omega) ?_))
    refine Def.ite (by rw [List.length_set]; omega) (Def.atSet0 hn (Def.ite (by unfold fits; omega) ?_))
    refine Def.ite (by rw [List.length_set]; omega) (Def.atSet0 hn (Def.ite (by unfold fits; omega) ?_))
    refine Def.ite (by rw [List.length_set]; omega) (Def.atSet0 hn (Def.ite (by unfold fits; omega) ?_))
    refine Def.ite (by rw [List.length_set]; omega) (Def.atSet0 hn (Def.ite (by unfold fits; omega) ?_))
    refine Def.ite (by rw [List.length_set]; omega) (Def.atSet0 hn (Def.ite (by unfold fits; omega) (Def.ite (fits_nat (n := n) (by omega)) ?_)))
    exact h _ _ (by omega) (by omega)
/-! ### numbers -/
theorem eqIntS_spec (N : Nat) (a b : List Int) (h : a.length < N) (hN : N ≤ 1099511627776) : l_eqIntS_m N a b = some (decide (a = b)) :=
  eqLoop_spec (fun (e e2 : Int) => some (decide (e = e2))) N a b h hN fun x hx y => rfl
def mInt (x : Int) (k : Int) : Int := k
def cInt (x : Int) : Nat := 1
theorem markIntS_spec (N : Nat) (a : List Int) (k : Int) (hk : 0 ≤ k) (hK : k + mcnt cInt a ≤ 1000000000000000000) (h : a.length < N) (hN : N ≤ 1099511627776) : l_markIntS_m N a k = some (k + mcnt cInt a, markL mInt cInt a k) := by
  unfold l_markIntS_m
  refine markLoop_spec mInt cInt N 1000000000000000000 (fun _ => True) (fun go a k => ?_) (fun go a n hn k hn0 _ hk hK => ?_) a k hk hK h hN (fun _ _ => True.intro)
  · dsimp only
    rw [decide_eq_false (Int.lt_irrefl _), cond_false]
  · dsimp only
    unfold cInt at hK ⊢
    rw [decide_eq_true (by omega : (n : Int) < (a.length : Int)), cond_true, if_pos (by omega), Int.toNat_natCast, List.getElem?_eq_getElem hn, Option.bind_some, if_pos (by unfold fits; omega), if_pos (fits_nat (n := n) (by omega))]
    rfl
theorem heldIntS_spec (N : Nat) (a : List Int) (k : Int) (hk : 0 ≤ k) (hK : k + mcnt cInt a ≤ 1000000000000000000) (h : a.length < N) (hN : N ≤ 1099511627776) : l_heldIntS_m N (markL mInt cInt a k) k = some (k + mcnt cInt a) := by
  unfold l_heldIntS_m
  refine heldLoop_spec mInt cInt N 1000000000000000000 (fun _ => True) (fun go a k => ?_) (fun go a n hn k x hn0 hx _ hk hK => ?_) a k hk hK h hN (fun _ _ => True.intro)
  · dsimp only
    rw [decide_eq_false (Int.lt_irrefl _), cond_false]
  · dsimp only
    unfold cInt at hK ⊢
    have e : a[n] = k := hx
    rw [decide_eq_true (by omega : (n : Int) < (a.length : Int)), cond_true, idx_at hn, Option.bind_some, decide_eq_true e, Bool.not_true, cond_false, if_pos (by unfold fits; omega), if_pos (fits_nat (n := n) (by omega))]
    rfl
theorem mcnt_int : ∀ a : List Int, mcnt cInt a = a.length
  | [] => rfl
  | x :: xs => by simp [mcnt, mcnt_int xs, cInt]; omega
theorem fnExactKnotsFind_gen (N : Nat) (hM : 1048576 < N) (hN : N ≤ 16777216) (x : List Kn) (b b2 b3 b4 : Int) (hx : x.length ≤ 9223372036854775807) : l_FnExactKnotsFind_m N x b b2 b3 b4 = some true := by
  have hN' : N ≤ 1099511627776 := by omega
  refine Def.get ?_
  unfold l_FnExactKnotsFind_m
  refine Def.bind (szKnotS_def N x hx) fun r hr => ?_
  refine Def.dif (fun e => Def.ret rfl) (fun e => ?_)
  rcases hr with hr | ⟨r0, h0⟩
  · omega
  have hl : x.length < N := by omega
  have e0 := toKnotS_spec N hN x hl
  obtain ⟨l, e2, e3, _, h24, _⟩ := knotsFind_same N hN (by omega) x hl b b2 b3 b4
  have e4 : l_eqIntS_m N l.1 l.1 = some true := (eqIntS_spec N l.1 l.1 (by omega) hN').trans (by rw [decide_eq_true rfl])
  have e5 := eqKnotS_refl N hN x hl
  have hcl := mcnt_int l.1
  have e7 := markIntS_spec N l.1 1 (by omega) (by omega) (by omega) hN'
  have e8 := heldIntS_spec N l.1 1 (by omega) (by omega) (by omega) hN'
  have e9 : ∀ a a2 a3 a4 : Int, l_toBox_m N a a2 a3 a4 = some (a, a2, a3, a4) := fun _ _ _ _ => rfl
  simp only [e0, e9, e2, e3, e4, e5, Option.bind_some, Bool.not_true, cond_false, decide_true]
  refine Def.bind (markKnotS_def N hN x hl) fun m m1 => ?_
  rw [decide_eq_false (by omega), cond_false, e7]
  simp only [Option.bind_some]
  rw [e8]
  simp only [Option.bind_some, decide_true, Bool.not_true, cond_false]
  rw [decide_eq_false (by omega), cond_false]
  exact Def.ret rfl
abbrev TPoint : Tp := .pair (.int .i64) (.pair (.int .i64) (.int .i64))
abbrev TKnot : Tp := .pair TPoint (.pair (.int .i64) (.pair (.int .i64) (.pair (.int .i64) (.pair (.int .i64) (.int .i64)))))
abbrev TBox : Tp := .pair (.int .i64) (.pair (.int .i64) (.pair (.int .i64) (.int .i64)))
theorem fnExactKnotsFind_law (x0 : List Kn) (x1 : Int × Int × Int × Int) (o0 : okD BigN (.sl TKnot) x0) (o1 : okD BigN TBox x1) : l_FnExactKnotsFind_m 1048700 x0 x1.1 x1.2.1 x1.2.2.1 x1.2.2.2 = some true :=
  fnExactKnotsFind_gen 1048700 (by decide) (by decide) x0 x1.1 x1.2.1 x1.2.2.1 x1.2.2.2 o0.1
end Go.Proofs.Ytlhkdngkjodgiaa

/- Plain laws: the draws of FnKnotsFind, and the law. -/
set_option linter.unusedVariables false
set_option linter.unusedSimpArgs false
namespace Go.Proofs.Ytlhkdngkjodgiaa
open Go.RowKit
theorem bytes_ok {code : List Int} (o : okD BigN (.sl (.int .u8)) code) : Bs code := fun x hx => by
  have h := o.2 x hx
  have e1 : IntKind.u8.min = 0 := by decide
  have e2 : IntKind.u8.max = 255 := by decide
  have h1 : IntKind.u8.min ≤ x := h.1
  have h2 : x ≤ IntKind.u8.max := h.2
  rw [e1] at h1
  rw [e2] at h2
  exact ⟨h1, h2⟩
def Rdr (b : List Int) (k : Int) (j : Nat) : Prop := Bs b ∧ b.length ≤ 2000 ∧ 0 ≤ k ∧ k ≤ j
theorem Rdr.le {b : List Int} {k : Int} {j j' : Nat} (h : Rdr b k j) (hj : j ≤ j') : Rdr b k j' := ⟨h.1, h.2.1, h.2.2.1, by have := h.2.2.2; omega⟩
theorem pick_def (N : Nat) (n : Int) {b : List Int} {k : Int} {j : Nat} (h : Rdr b k j) (hj : j ≤ 1000000) : Def (s_l30Rd_pick_m N n b k) fun r => 0 ≤ r.1 ∧ (1 ≤ n → r.1 < n) ∧ (n < 1 → r.1 = 0) ∧ Rdr r.2.1 r.2.2 (j + 1) := by
  obtain ⟨v, h1, h2, h3, h4⟩ := pick_spec N n b k h.1 h.2.2.1 (by have := h.2.2.2; omega) h.2.1
  exact ⟨_, h1, h2, h3, h4, h.1, h.2.1, by have := h.2.2.1; show (0:Int) ≤ k + 1; omega, by have := h.2.2.2; show k + 1 ≤ ((j + 1 : Nat) : Int); omega⟩
theorem one_def (N : Nat) {l : List Int} {b : List Int} {k : Int} {j : Nat} (hl : 0 < l.length) (h : Rdr b k j) (hj : j ≤ 1000000) : Def (s_l30Rd_one_m N l b k) fun r => r.1 ∈ l ∧ Rdr r.2.1 r.2.2 (j + 1) := by
  unfold s_l30Rd_one_m
  refine Def.bind (pick_def N _ h hj) fun r ⟨h0, h1, _, h3⟩ => ?_
  exact Def.idx h0 (h1 (by omega)) fun x hx _ => Def.ret ⟨hx, h3⟩
theorem open_def (N : Nat) {code : List Int} (hb : Bs code) : Def (s_l30Open_m N code) fun r => Rdr r.1 r.2 0 := by
  unfold s_l30Open_m
  refine Def.dif (fun c => ?_) (fun c => ?_)
  · refine Def.cut (by omega) (by omega) (by omega) (Def.ret ⟨fun x hx => hb x ?_, ?_, Int.le_refl _, Int.le_refl _⟩)
    · exact List.mem_of_mem_take (List.mem_of_mem_drop hx)
    · have : (2000 : Int).toNat = 2000 := rfl
      rw [this, List.length_drop, List.length_take]; omega
  · exact Def.ret ⟨hb, by show code.length ≤ 2000; omega, Int.le_refl _, Int.le_refl _⟩
def InR (x y : Int) : Prop := 0 ≤ x ∧ x ≤ 999 ∧ 0 ≤ y ∧ y ≤ 999
theorem of4 {x a b : Int} (h : x ∈ [a, b, 999, 0]) (ha : 0 ≤ a ∧ a < 20) (hb : 0 ≤ b ∧ b < 20) : 0 ≤ x ∧ x ≤ 999 := by
  simp only [List.mem_cons, List.not_mem_nil, or_false] at h
  omega
theorem point_def (N : Nat) (id : Int) {b : List Int} {k : Int} {j : Nat} (h : Rdr b k j) (hj : j ≤ 1000) : Def (s_l30Point_m N id b k) fun r => r.1 = id ∧ InR r.2.1 r.2.2.1 ∧ Rdr r.2.2.2.1 r.2.2.2.2 (j + 6) := by
  unfold s_l30Point_m
  refine Def.bind (pick_def N _ h (by omega)) fun r ⟨a0, a1, _, h1⟩ => ?_
  refine Def.bind (pick_def N _ h1 (by omega)) fun r2 ⟨b0, b1, _, h2⟩ => ?_
  refine Def.bind (one_def N (by simp) h2 (by omega)) fun r3 ⟨c, h3⟩ => ?_
  refine Def.bind (pick_def N _ h3 (by omega)) fun r4 ⟨d0, d1, _, h4⟩ => ?_
  refine Def.bind (pick_def N _ h4 (by omega)) fun r5 ⟨e0, e1, _, h5⟩ => ?_
  refine Def.bind (one_def N (by simp) h5 (by omega)) fun r6 ⟨f, h6⟩ => ?_
  have x1 := of4 c ⟨a0, a1 (by omega)⟩ ⟨b0, b1 (by omega)⟩
  have x2 := of4 f ⟨d0, d1 (by omega)⟩ ⟨e0, e1 (by omega)⟩
  exact Def.ret ⟨rfl, ⟨x1.1, x1.2, x2.1, x2.2⟩, h6⟩
theorem pointsOf_def (N : Nat) (hN : 1000 < N) {b : List Int} {k : Int} (h : Rdr b k 0) : Def (s_l30PointsOf_m N b k) fun r => r.1.length ≤ 20 ∧ OneId r.1 ∧ (∀ p ∈ r.1, InR p.2.1 p.2.2) ∧ Rdr r.2.1 r.2.2 200 := by
  unfold s_l30PointsOf_m
  refine Def.bind (one_def N (by simp) h (by omega)) fun r ⟨hm, h1⟩ => ?_
  obtain ⟨n0, h20, e⟩ : ∃ n0 : Nat, n0 ≤ 20 ∧ r.1 = n0 := by
    simp only [List.mem_cons, List.not_mem_nil, or_false] at hm
    exact ⟨r.1.toNat, by omega, by omega⟩
  rw [e]
  refine Def.upto n0 (fun m g => ∃ out id b3 b4, g = (out, id, (n0 : Int) - m, b3, b4) ∧ out.length = m ∧ OneId out ∧ (∀ p ∈ out, p.1 ≤ id ∧ InR p.2.1 p.2.2) ∧ 0 ≤ id ∧ id ≤ 3 * m ∧ Rdr b3 b4 (1 + 7 * m)) ?_ ?_ N 0 _ (Nat.zero_le _)
    ⟨[], 0, r.2.1, r.2.2, by rw [Int.natCast_zero, Int.sub_zero], rfl, by simp [OneId], fun p hp => by simp at hp, Int.le_refl _, by omega, h1.le (by omega)⟩ (by omega)
  · rintro go _ ⟨out, id, b3, b4, rfl, hl, ho, hp, i0, i1, hr⟩
    dsimp only
    rw [decide_eq_false (by omega), cond_false]
    exact Def.ret ⟨by show out.length ≤ 20; omega, ho, fun p hp' => (hp p hp').2, hr.le (by omega)⟩
  · rintro go m _ hm ⟨out, id, b3, b4, rfl, hl, ho, hp, i0, i1, hr⟩ hgo
    dsimp only
    rw [decide_eq_true (by omega), cond_true]
    refine Def.ite (by unfold fits; omega) (Def.bind (pick_def N _ hr (by omega)) fun r2 ⟨a0, a1, _, h2⟩ => ?_)
    have a1 := a1 (by omega)
    refine Def.ite (by unfold fits; omega) (Def.bind (point_def N _ h2 (by omega)) fun r3 ⟨c0, c1, h3⟩ => ?_)
    refine Def.ite (room_of (by simp; omega) (by simp; omega)) (Def.ite (by unfold fits; omega) (hgo _ ⟨out ++ [(r3.1, r3.2.1, r3.2.2.1)], id + 1 + r2.1, r3.2.2.2.1, r3.2.2.2.2, ?_, ?_, ?_, ?_, ?_, ?_, h3.le (by omega)⟩))
    · rw [show ((n0 : Int) - m) - 1 = (n0 : Int) - ((m + 1 : Nat) : Int) by omega]
    · rw [List.length_append, hl]; rfl
    · unfold OneId
      rw [List.map_append, List.nodup_append]
      refine ⟨ho, by simp, fun x hx y hy => ?_⟩
      obtain ⟨p, hp1, rfl⟩ := List.mem_map.1 hx
      rw [List.map_singleton, List.mem_singleton] at hy
      subst hy
      have := (hp p hp1).1
      show p.1 ≠ r3.1
      omega
    · intro p hp'
      rcases List.mem_append.1 hp' with hp' | hp'
      · exact ⟨by have := (hp p hp').1; omega, (hp p hp').2⟩
      · rw [List.mem_singleton.1 hp']
        exact ⟨by show r3.1 ≤ _; omega, c1⟩
    · omega
    · omega
theorem knots_def (N : Nat) (hN : N ≤ 16777216) (h5 : 10000 < N) {b : List Int} {k : Int} (h : Rdr b k 0) : Def (s_l30Knots_m N b k) fun r => r.1.length ≤ 20 ∧ Rdr r.2.1 r.2.2 300 := by
  unfold s_l30Knots_m
  refine Def.bind (pointsOf_def N (by omega) h) fun r ⟨h20, ho, hp, h1⟩ => ?_
  obtain ⟨t, _, t2, t3, t4, t5⟩ := build_same N hN (by omega) N r.1 0 false (by omega) (by omega) ho rfl (by omega) (by omega)
  rw [t2, Option.bind_some]
  have hl : t.length ≤ 20 := by have := t4.length_eq; rw [List.length_map] at this; omega
  have hin : ∀ e ∈ t, InR e.1.2.1 e.1.2.2 := fun e he => hp e.1 (t4.mem_iff.1 (List.mem_map_of_mem (f := fun q : Kn => q.1) he))
  have hmx : ∀ e ∈ t, 0 ≤ e.2.2.2.1 ∧ e.2.2.2.1 ≤ 999 := fun e he => by
    obtain ⟨p, hp1, hp2⟩ := t5 e he
    have := hp p hp1
    rw [← hp2]
    exact ⟨this.1, this.2.1⟩
  refine Def.dif (fun c => ?_) (fun c => Def.ret ⟨hl, h1.le (by omega)⟩)
  refine Def.bind (pick_def N _ h1 (by omega)) fun r3 ⟨_, _, _, h3⟩ => ?_
  refine Def.dif (fun c2 => ?_) (fun c2 => Def.ret ⟨hl, h3.le (by omega)⟩)
  refine Def.bind (pick_def N _ h3 (by omega)) fun r4 ⟨a0, a1, _, h4⟩ => ?_
  have a1 := a1 (by omega)
  obtain ⟨m, hm, em⟩ : ∃ m : Nat, m < t.length ∧ r4.1 = (m : Int) := ⟨r4.1.toNat, by omega, by omega⟩
  rw [em]
  have hmem : t[m] ∈ t := List.getElem_mem hm
  refine Def.bind (pick_def N _ h4 (by omega)) fun r5 ⟨_, _, _, h6⟩ => ?_
  refine Def.dif (fun c3 => ?_) (fun c3 => Def.dif (fun c4 => ?_) (fun c4 => ?_))
  · refine Def.bind (one_def N (by simp) h6 (by omega)) fun r6 ⟨_, h7⟩ => ?_
    exact Def.ite (by omega) (Def.at hm (Def.ret ⟨by show (t.set _ _).length ≤ 20; rw [List.length_set]; exact hl, h7.le (by omega)⟩))
  · have := hmx _ hmem
    exact Def.ite (by omega) (Def.at hm (Def.ite (by unfold fits; omega) (Def.ite (by omega) (Def.at hm (Def.ret ⟨by show (t.set _ _).length ≤ 20; rw [List.length_set]; exact hl, h6.le (by omega)⟩)))))
  · have := hin _ hmem
    unfold InR at this
    exact Def.ite (by omega) (Def.at hm (Def.ite (by unfold fits; omega) (Def.ite (by omega) (Def.at hm (Def.ret ⟨by show (t.set _ _).length ≤ 20; rw [List.length_set]; exact hl, h6.le (by omega)⟩)))))
theorem box_def (N : Nat) {b : List Int} {k : Int} (h : Rdr b k 300) : Def (s_l30Box_m N b k) fun _ => True := by
  unfold s_l30Box_m
  refine Def.bind (pick_def N _ h (by omega)) fun r ⟨a0, a1, _, h1⟩ => ?_
  refine Def.bind (pick_def N _ h1 (by omega)) fun r2 ⟨b0, b1, _, h2⟩ => ?_
  refine Def.bind (pick_def N _ h2 (by omega)) fun r3 ⟨c0, c1, _, h3⟩ => ?_
  have a1 := a1 (by omega)
  have b1 := b1 (by omega)
  have c1 := c1 (by omega)
  refine Def.ite (by unfold fits; omega) (Def.bind (pick_def N _ h3 (by omega)) fun r4 ⟨d0, d1, _, h4⟩ => ?_)
  have d1 := d1 (by omega)
  refine Def.ite (by unfold fits; omega) (Def.bind (pick_def N _ h4 (by omega)) fun r5 _ => ?_)
  refine Def.dif (fun _ => Def.ite (by unfold fits; omega) (Def.ret True.intro)) (fun _ => Def.dif (fun _ => Def.ret True.intro) (fun _ => Def.dif (fun _ => Def.ret True.intro) (fun _ => Def.ret True.intro)))
theorem draw_def (N : Nat) (hN : N ≤ 16777216) (h5 : 10000 < N) {code : List Int} (hb : Bs code) : Def (s_DrawKnotsFind_m N code) fun r => r.1.length ≤ 20 := by
  unfold s_DrawKnotsFind_m
  refine Def.bind (open_def N hb) fun r h1 => ?_
  refine Def.bind (knots_def N hN h5 h1) fun r2 ⟨h2, h3⟩ => ?_
  refine Def.bind (box_def N h3) fun r3 _ => ?_
  exact Def.ret h2
/-! ### what the law asks besides -/
theorem foInts_refl (N : Nat) (a : List Int) (h : a.length < N) (hN : N ≤ 1099511627776) : l_foInts_m N a a = some true :=
  (show l_foInts_m N a a = some (decide (a = a)) from eqLoop_spec (fun (e e2 : Int) => some (decide (e = e2))) N a a h hN fun x hx y => rfl).trans (by rw [decide_eq_true rfl])
theorem foInBox_spec (N : Nat) (b b2 b3 b4 : Int) (e : Kn) : l_foInBox_m N e.1.1 e.1.2.1 e.1.2.2 b b2 b3 b4 = some (isIn b b2 b3 b4 e) := by
  unfold l_foInBox_m isIn inB
  by_cases h1 : b ≤ e.1.2.1
  · by_cases h2 : e.1.2.1 ≤ b2
    · by_cases h3 : b3 ≤ e.1.2.2
      · simp [h1, h2, h3]
      · simp [h1, h2, h3]
    · simp [h1, h2]
  · simp [h1]
theorem foIn_spec (N : Nat) (hN : N ≤ 16777216) (l : List Int) (n : Int) (hl : l.length < N) (h : n ∈ l) : l_foIn_m N l n = some true := by
  refine Def.get ?_
  unfold l_foIn_m
  refine Def.upto l.length (fun k g => n ∉ l.take k ∧ g = (l, n, (k : Int))) ?_ ?_ N 0 _ (Nat.zero_le _) ⟨by simp, rfl⟩ (by omega)
  · rintro go _ ⟨h1, rfl⟩
    rw [List.take_length] at h1
    exact absurd h h1
  · rintro go k _ hk ⟨h1, rfl⟩ hgo
    dsimp only
    rw [decide_eq_true (by omega : (k : Int) < (l.length : Int)), cond_true, idx_at hk, Option.bind_some]
    refine Def.dif (fun c => Def.ret rfl) (fun c => Def.ite (fits_nat (n := k) (by omega)) (hgo _ ⟨?_, by rw [cast_succ']⟩))
    rw [List.take_succ_eq_append_getElem hk, List.mem_append, List.mem_singleton]
    rintro (h | h)
    · exact h1 h
    · exact c h.symm
theorem upOk_spec (N : Nat) (hN : N ≤ 16777216) (l : List Int) (hl : l.length < N) (ha : AscI l) (hr : ∀ i ∈ l, 0 ≤ i ∧ i ≤ 999999999) (h60 : l.length ≤ 60) : i_UpOk_m N l = some true := by
  refine Def.get ?_
  unfold i_UpOk_m
  refine Def.upto l.length (fun k g => g = (l, l, (l.length : Int), (k : Int))) ?_ ?_ N 0 _ (Nat.zero_le _) rfl (by omega)
  · rintro go _ rfl
    dsimp only
    rw [decide_eq_false (Int.lt_irrefl _), cond_false, decide_eq_true (by omega)]
    exact Def.ret rfl
  · rintro go k _ hk rfl hgo
    dsimp only
    have h1 := hr _ (List.getElem_mem hk)
    have e1 : inB l[k] 0 999999999 = true := by unfold inB; rw [decide_eq_true h1.1, decide_eq_true h1.2]; rfl
    rw [decide_eq_true (by omega : (k : Int) < (l.length : Int)), cond_true, idx_at hk, Option.bind_some, within_spec, Option.bind_some, e1, Bool.not_true, cond_false]
    refine Def.dif (fun c => ?_) (fun c => Def.ite (fits_nat (n := k) (by omega)) (hgo _ (by rw [cast_succ'])))
    refine Def.ite (by unfold fits; omega) ?_
    have e2 : (k : Int) - 1 = ((k - 1 : Nat) : Int) := by omega
    rw [e2, idx_at (show k - 1 < l.length by omega), Option.bind_some]
    have h2 : l[k - 1] < l[k] := List.pairwise_iff_getElem.1 ha (k - 1) k (by omega) hk (by omega)
    rw [decide_eq_false (by omega), cond_false]
    exact Def.ite (fits_nat (n := k) (by omega)) (hgo _ (by rw [cast_succ']))
theorem fnKnotsFind_gen (N : Nat) (h5 : 1048576 < N) (hN : N ≤ 16777216) (code : List Int) (hb : Bs code) : l_FnKnotsFind_m N code = some true := by
  have hN' : N ≤ 1099511627776 := by omega
  refine Def.get ?_
  unfold l_FnKnotsFind_m
  refine Def.dif (fun _ => Def.ret rfl) (fun _ => ?_)
  refine Def.bind (draw_def N hN (by omega) hb) fun r h20 => ?_
  obtain ⟨x, b, b2, b3, b4⟩ := r
  have h20 : x.length ≤ 20 := h20
  obtain ⟨q, e1, e2, ha, h24, hfull⟩ := knotsFind_same N hN (by omega) x (by omega) b b2 b3 b4
  obtain ⟨ok, e3, e4, _⟩ := knotsOk_same N hN (by omega) x (by omega)
  obtain ⟨ok2, e5⟩ := boxOk_some N b b2 b3 b4
  have e6 := foInts_refl N q.1 (by omega) hN'
  have e7 : s_KnotsOk_m N x = some ok := by unfold s_KnotsOk_m; rw [e4]; rfl
  have e8 : s_BoxOk_m N b b2 b3 b4 = some ok2 := by unfold s_BoxOk_m; rw [e5]; rfl
  have e9 : i_BoxOk_m N b b2 b3 b4 = some ok2 := (boxOk_spec N b b2 b3 b4).trans e5
  have e10 : ∀ c : Bool, (c == c) = true := fun c => by cases c <;> rfl
  simp only [e1, e2, e3, e6, e7, e8, e9, e10, Option.bind_some, decide_true, Bool.not_true, cond_false, cond_true]
  refine Def.dif (fun _ => Def.ret rfl) (fun c => ?_)
  obtain ⟨hg, hp, hn1, hn2⟩ := hfull (by omega)
  have hlen := hp.length_eq
  rw [List.length_map] at hlen
  have hmem : ∀ e ∈ x, isIn b b2 b3 b4 e = true → e.1.1 ∈ q.1 := fun e he h => hp.mem_iff.2 (List.mem_map_of_mem (f := fun e : Kn => e.1.1) (List.mem_filter.2 ⟨he, h⟩))
  have hr : ∀ i ∈ q.1, 0 ≤ i ∧ i ≤ 999999999 := fun i hi => by
    obtain ⟨e, he, rfl⟩ := List.mem_map.1 (hp.mem_iff.1 hi)
    have := hg.1 e.1 (List.mem_map_of_mem (f := fun q : Kn => q.1) (List.mem_filter.1 he).1)
    unfold ptOk inB at this
    simp only [Bool.and_eq_true, decide_eq_true_eq] at this
    omega
  refine Def.upto x.length (fun n g => g = (x, q.1, q.2, (((x.take n).filter (isIn b b2 b3 b4)).length : Int), (n : Int), b, b2, b3, b4)) ?_ ?_ N 0 _ (Nat.zero_le _) rfl (by omega)
  · rintro go _ rfl
    dsimp only
    rw [decide_eq_false (Int.lt_irrefl _), cond_false, upOk_spec N hN q.1 (by omega) ha hr (by omega), Option.bind_some, cond_true, List.take_length, ← hlen, decide_eq_true rfl, cond_true, decide_eq_true hn1, cond_true, decide_eq_true hn2]
    exact Def.ret rfl
  · rintro go n _ hn rfl hgo
    dsimp only
    rw [decide_eq_true (by omega : (n : Int) < (x.length : Int)), cond_true, idx_at hn, Option.bind_some, foInBox_spec, Option.bind_some]
    have htk := List.take_succ_eq_append_getElem hn
    have hle := List.length_filter_le (isIn b b2 b3 b4) (x.take n)
    rw [List.length_take] at hle
    refine Def.bif (fun e => ?_) (fun e => ?_)
    · refine Def.ite (by unfold fits; omega) ?_
      rw [Option.bind_some, foIn_spec N hN q.1 _ (by omega) (hmem _ (List.getElem_mem hn) e), Option.bind_some, Bool.not_true, cond_false]
      refine Def.ite (fits_nat (n := n) (by omega)) (hgo _ ?_)
      rw [htk, List.filter_append, List.filter_cons, if_pos e, List.filter_nil, List.length_append, cast_succ']
      rfl
    · refine Def.ite (fits_nat (n := n) (by omega)) (hgo _ ?_)
      rw [htk, List.filter_append, List.filter_cons, if_neg (by rw [e]; decide), List.filter_nil, List.append_nil, cast_succ']
theorem fnKnotsFind_law (code : List Int) (o0 : okD BigN (.sl (.int .u8)) code) : l_FnKnotsFind_m 1048700 code = some true := fnKnotsFind_gen 1048700 (by decide) (by decide) code (bytes_ok o0)
end Go.Proofs.Ytlhkdngkjodgiaa

/- Plain laws: a box in two halves. -/
set_option linter.unusedVariables false
set_option linter.unusedSimpArgs false
namespace Go.Proofs.Ytlhkdngkjodgiaa
open Go.RowKit
theorem boxOk_val (N : Nat) (b b2 b3 b4 : Int) : s_l15BoxOk_m N b b2 b3 b4 = some (inB b 0 999 && inB b2 b 999 && inB b3 0 999 && inB b4 b3 999) := by
  unfold s_l15BoxOk_m
  rw [l1In_spec, l1In_spec, l1In_spec, l1In_spec]
  cases inB b 0 999 <;> cases inB b2 b 999 <;> cases inB b3 0 999 <;> rfl
theorem knotsFind_neg (N : Nat) (hN : N ≤ 16777216) (h5 : 10000 < N) (x : List Kn) (hl : x.length < N) (b b2 b3 b4 : Int) (q : List Int × Int) (e : i_KnotsFind_m N x b b2 b3 b4 = some q) (h : 0 ≤ q.2) :
    i_KnotsOk_m N x = some true ∧ s_l15BoxOk_m N b b2 b3 b4 = some true := by
  obtain ⟨ok, e1, e2, _⟩ := knotsOk_same N hN (by omega) x hl
  obtain ⟨ok2, e3⟩ := boxOk_some N b b2 b3 b4
  unfold i_KnotsFind_m at e
  rw [e1, Option.bind_some, boxOk_spec, e3] at e
  cases ok with
  | false => cases e; exact absurd h (by decide)
  | true =>
    cases ok2 with
    | false => cases e; exact absurd h (by decide)
    | true => exact ⟨e1, e3⟩
theorem knotsFind_ok (N : Nat) (hN : N ≤ 16777216) (h5 : 10000 < N) (x : List Kn) (hl : x.length < N) (b b2 b3 b4 : Int) (h1 : i_KnotsOk_m N x = some true) (h2 : s_l15BoxOk_m N b b2 b3 b4 = some true) :
    ∃ q, i_KnotsFind_m N x b b2 b3 b4 = some q ∧ AscI q.1 ∧ q.1.length ≤ 24 ∧ q.1.Perm ((x.filter (isIn b b2 b3 b4)).map (·.1.1)) := by
  obtain ⟨q, e1, _, ha, h24, hf⟩ := knotsFind_same N hN h5 x hl b b2 b3 b4
  obtain ⟨ok, g1, g2, g3⟩ := knotsOk_same N hN (by omega) x hl
  have : ok = true := Option.some.inj (g1.symm.trans h1)
  subst this
  obtain ⟨hk, hg⟩ := g3 rfl
  have hl24 : x.length ≤ 24 := by have := hg.2.2; rw [List.length_map] at this; exact this
  obtain ⟨ids, ids', c, f1, f2, k1, k2, k3, k4, k5, k6⟩ := find_same N hN h5 b b2 b3 b4 x hk N hl (by omega)
  have hq : 0 ≤ q.2 := by
    unfold i_KnotsFind_m at e1
    rw [h1, Option.bind_some, boxOk_spec, h2] at e1
    simp only [Bool.not_true, cond_false, Option.bind_some, f1] at e1
    cases hs : k_slices_Sort_287_m N ids with
    | none => rw [hs] at e1; cases e1
    | some r =>
      rw [hs, Option.bind_some] at e1
      cases e1
      show 0 ≤ c
      omega
  exact ⟨q, e1, ha, h24, (hf hq).2.1⟩
theorem filter_split {α : Type} (p q1 q2 : α → Bool) : ∀ x : List α, (∀ e ∈ x, p e = (q1 e || q2 e)) → (∀ e ∈ x, q1 e = true → q2 e = false) → (x.filter q1 ++ x.filter q2).Perm (x.filter p)
  | [], _, _ => by simp
  | a :: x, h1, h2 => by
    have ih := filter_split p q1 q2 x (fun e he => h1 e (List.mem_cons_of_mem _ he)) (fun e he => h2 e (List.mem_cons_of_mem _ he))
    have e1 := h1 a (List.mem_cons_self ..)
    have e2 := h2 a (List.mem_cons_self ..)
    rw [List.filter_cons, List.filter_cons, List.filter_cons, e1]
    cases hq : q1 a with
    | true =>
      rw [e2 hq]
      simp only [if_true, Bool.true_or, Bool.false_eq_true, if_false, List.cons_append]
      exact ih.cons _
    | false =>
      cases hr : q2 a with
      | true =>
        simp only [if_true, Bool.or_true, Bool.false_eq_true, if_false]
        exact List.perm_middle.trans (ih.cons _)
      | false =>
        simp only [Bool.or_false, Bool.false_eq_true, if_false]
        exact ih
theorem compact_spec (N : Nat) (hN : N ≤ 16777216) (r : List Int) (ha : AscI r) (hl : r.length < N) : k_slices_Compact_192_m N r = some r := by
  refine Def.get ?_
  unfold k_slices_Compact_192_m
  refine Def.dif (fun c => Def.ret rfl) (fun c => ?_)
  refine Def.upto r.length (fun n g => 1 ≤ n ∧ g = (r, (n : Int))) ?_ ?_ N 1 _ (by omega) ⟨Nat.le_refl _, rfl⟩ (by omega)
  · rintro go _ ⟨h1, rfl⟩
    dsimp only
    rw [decide_eq_false (Int.lt_irrefl _), cond_false]
    exact Def.ret rfl
  · rintro go n _ hn ⟨h1, rfl⟩ hgo
    dsimp only
    rw [decide_eq_true (by omega : (n : Int) < (r.length : Int)), cond_true]
    rw [idx_at hn, Option.bind_some]
    refine Def.ite (by unfold fits; omega) ?_
    have e2 : (n : Int) - 1 = ((n - 1 : Nat) : Int) := by omega
    rw [e2, idx_at (show n - 1 < r.length by omega), Option.bind_some]
    have h2 : r[n - 1] < r[n] := List.pairwise_iff_getElem.1 ha (n - 1) n (by omega) hn (by omega)
    rw [decide_eq_false (by omega), cond_false]
    exact Def.ite (fits_nat (n := n) (by omega)) (hgo _ ⟨by omega, by rw [cast_succ']⟩)
theorem contains_spec (N : Nat) (hN : N ≤ 16777216) (l : List Int) (v : Int) (hl : l.length < N) (hv : v ∉ l) : k_slices_Contains_735_m N l v = some false := by
  have h : k_slices_Index_484_m N l v = some (-1) := by
    refine Def.get ?_
    unfold k_slices_Index_484_m
    refine Def.upto l.length (fun n g => g = (l, v, (l.length : Int), (n : Int))) ?_ ?_ N 0 _ (Nat.zero_le _) rfl (by omega)
    · rintro go _ rfl
      dsimp only
      rw [decide_eq_false (Int.lt_irrefl _), cond_false]
      exact Def.ret rfl
    · rintro go n _ hn rfl hgo
      dsimp only
      rw [decide_eq_true (by omega : (n : Int) < (l.length : Int)), cond_true, idx_at hn, Option.bind_some, decide_eq_false (fun e => hv (by rw [e]; exact List.getElem_mem hn)), cond_false]
      exact Def.ite (fits_nat (n := n) (by omega)) (hgo _ (by rw [cast_succ']))
  unfold k_slices_Contains_735_m
  rw [h]; rfl
theorem setOr_spec (N : Nat) (hN : N ≤ 16777216) (h5 : 1000 < N) (a b l : List Int) (ha : AscI a) (hb : AscI b) (hl : AscI l) (hp : (a ++ b).Perm l) (hr : ∀ i ∈ l, 0 ≤ i ∧ i ≤ 999999999) (ha24 : a.length ≤ 24) (hb24 : b.length ≤ 24) : i_SetOr_m N a b = some l := by
  refine Def.get ?_
  unfold i_SetOr_m
  rw [upOk_spec N hN a (by omega) ha (fun i hi => hr i (hp.mem_iff.1 (List.mem_append_left _ hi))) (by omega), upOk_spec N hN b (by omega) hb (fun i hi => hr i (hp.mem_iff.1 (List.mem_append_right _ hi))) (by omega)]
  simp only [Option.bind_some, Bool.not_true, cond_false]
  refine Def.ite (room_of (by simp; omega) (by simp; omega)) (Def.ite (room_of (by simp; omega) (by simp; omega)) ?_)
  rw [List.nil_append]
  refine Def.bind (sortI_def N hN (by omega) (a ++ b) (hp.nodup_iff.2 hl.nodup) (by rw [List.length_append]; omega)) fun r ⟨r1, r2⟩ => ?_
  have e : r = l := ascI_same r2 hl (r1.trans hp)
  subst e
  have hlen := hp.length_eq
  rw [List.length_append] at hlen
  rw [compact_spec N hN r r2 (by omega), Option.bind_some]
  exact Def.ite (room_of (by simp; omega) (by simp; omega)) (Def.ret rfl)
theorem setAnd_spec (N : Nat) (hN : N ≤ 16777216) (h5 : 1000 < N) (a b : List Int) (ha : AscI a) (hb : AscI b) (hd : ∀ i ∈ a, i ∉ b) (hra : ∀ i ∈ a, 0 ≤ i ∧ i ≤ 999999999) (hrb : ∀ i ∈ b, 0 ≤ i ∧ i ≤ 999999999) (ha24 : a.length ≤ 24) (hb24 : b.length ≤ 24) : i_SetAnd_m N a b = some [] := by
  refine Def.get ?_
  unfold i_SetAnd_m
  rw [upOk_spec N hN a (by omega) ha hra (by omega), upOk_spec N hN b (by omega) hb hrb (by omega)]
  simp only [Option.bind_some, Bool.not_true, cond_false]
  refine Def.upto a.length (fun n g => g = (b, ([] : List Int), a, (a.length : Int), (n : Int))) ?_ ?_ N 0 _ (Nat.zero_le _) rfl (by omega)
  · rintro go _ rfl
    dsimp only
    rw [decide_eq_false (Int.lt_irrefl _), cond_false]
    exact Def.ret rfl
  · rintro go n _ hn rfl hgo
    dsimp only
    rw [decide_eq_true (by omega : (n : Int) < (a.length : Int)), cond_true, idx_at hn, Option.bind_some, contains_spec N hN b _ (by omega) (hd _ (List.getElem_mem hn)), Option.bind_some, cond_false]
    exact Def.ite (fits_nat (n := n) (by omega)) (hgo _ (by rw [cast_succ']))
theorem fnKnotsHalf_gen (N : Nat) (h5 : 1048576 < N) (hN : N ≤ 16777216) (code more : List Int) (hb : Bs code) : l_FnKnotsHalf_m N code more = some true := by
  have hN' : N ≤ 1099511627776 := by omega
  refine Def.get ?_
  unfold l_FnKnotsHalf_m
  refine Def.dif (fun _ => Def.ret rfl) (fun _ => Def.dif (fun _ => Def.ret rfl) (fun hm => ?_))
  refine Def.bind (draw_def N hN (by omega) hb) fun r h20 => ?_
  obtain ⟨x, b, b2, b3, b4⟩ := r
  have h20 : x.length ≤ 20 := h20
  obtain ⟨q, e1, e2, ha, h24, hfull⟩ := knotsFind_same N hN (by omega) x (by omega) b b2 b3 b4
  have e6 := foInts_refl N q.1 (by omega) hN'
  simp only [e1, e2, e6, Option.bind_some, decide_true, Bool.not_true, cond_false, cond_true]
  refine Def.dif (fun _ => Def.ret rfl) (fun c => Def.dif (fun _ => Def.ret rfl) (fun c2 => ?_))
  obtain ⟨hg, hp, hn1, hn2⟩ := hfull (by omega)
  obtain ⟨k1, k2⟩ := knotsFind_neg N hN (by omega) x (by omega) b b2 b3 b4 q e1 (by omega)
  have kb := k2
  rw [boxOk_val] at kb
  have kb := Option.some.inj kb
  unfold inB at kb
  simp only [Bool.and_eq_true, decide_eq_true_eq] at kb
  have hpos : 0 < b2 - b := by omega
  obtain ⟨t, ht⟩ : ∃ t, t = (more.length : Int).tmod (b2 - b) := ⟨_, rfl⟩
  rw [← ht]
  have ht0 : 0 ≤ t := by rw [ht]; exact Int.tmod_nonneg _ (by omega)
  have ht1 : t < b2 - b := by rw [ht]; exact Int.tmod_lt_of_pos _ hpos
  refine Def.ite (by unfold fits; omega) (Def.ite (by omega) (Def.ite (by unfold fits; omega) (Def.ite (by unfold fits; omega) ?_)))
  have bl : s_l15BoxOk_m N b (b + t) b3 b4 = some true := by
    rw [boxOk_val]
    unfold inB
    rw [decide_eq_true (by omega), decide_eq_true (by omega), decide_eq_true (by omega), decide_eq_true (by omega), decide_eq_true (by omega), decide_eq_true (by omega), decide_eq_true (by omega), decide_eq_true (by omega)]
    rfl
  have br : s_l15BoxOk_m N (b + t + 1) b2 b3 b4 = some true := by
    rw [boxOk_val]
    unfold inB
    rw [decide_eq_true (by omega), decide_eq_true (by omega), decide_eq_true (by omega), decide_eq_true (by omega), decide_eq_true (by omega), decide_eq_true (by omega), decide_eq_true (by omega), decide_eq_true (by omega)]
    rfl
  obtain ⟨q1, f1, f2, f3, f4⟩ := knotsFind_ok N hN (by omega) x (by omega) b (b + t) b3 b4 k1 bl
  obtain ⟨q2, g1, g2, g3, g4⟩ := knotsFind_ok N hN (by omega) x (by omega) (b + t + 1) b2 b3 b4 k1 br
  have hperm : (q1.1 ++ q2.1).Perm q.1 := by
    refine (f4.append g4).trans (List.Perm.trans ?_ hp.symm)
    rw [← List.map_append]
    refine List.Perm.map _ (filter_split _ _ _ x (fun e _ => ?_) (fun e _ h => ?_))
    · unfold isIn inB
      by_cases u1 : b ≤ e.1.2.1 <;> by_cases u2 : e.1.2.1 ≤ b2 <;> by_cases u3 : e.1.2.1 ≤ b + t
      all_goals first
        | (rw [decide_eq_true u1, decide_eq_true u2, decide_eq_true u3, decide_eq_false (show ¬ b + t + 1 ≤ e.1.2.1 by omega)]; simp; done)
        | (rw [decide_eq_true u1, decide_eq_true u2, decide_eq_false u3, decide_eq_true (show b + t + 1 ≤ e.1.2.1 by omega)]; simp; done)
        | (rw [decide_eq_true u1, decide_eq_false u2, decide_eq_false (show ¬ e.1.2.1 ≤ b + t by omega)]; simp; done)
        | (rw [decide_eq_false u1, decide_eq_false (show ¬ b + t + 1 ≤ e.1.2.1 by omega)]; simp; done)
    · unfold isIn inB at *
      simp only [Bool.and_eq_true, decide_eq_true_eq] at h
      rw [decide_eq_false (show ¬ b + t + 1 ≤ e.1.2.1 by omega)]
      rfl
  have hr : ∀ i ∈ q.1, 0 ≤ i ∧ i ≤ 999999999 := fun i hi => by
    obtain ⟨e, he, rfl⟩ := List.mem_map.1 (hp.mem_iff.1 hi)
    have := hg.1 e.1 (List.mem_map_of_mem (f := fun q : Kn => q.1) (List.mem_filter.1 he).1)
    unfold ptOk inB at this
    simp only [Bool.and_eq_true, decide_eq_true_eq] at this
    omega
  have hnd : (q1.1 ++ q2.1).Nodup := hperm.nodup_iff.2 ha.nodup
  rw [f1, Option.bind_some, g1, Option.bind_some, setOr_spec N hN (by omega) q1.1 q2.1 q.1 f2 g2 ha hperm hr f3 g3, Option.bind_some, e6, Option.bind_some, cond_true,
    setAnd_spec N hN (by omega) q1.1 q2.1 f2 g2 (fun i h1 h2 => (List.nodup_append.1 hnd).2.2 i h1 i h2 rfl) (fun i hi => hr i (hperm.mem_iff.1 (List.mem_append_left _ hi))) (fun i hi => hr i (hperm.mem_iff.1 (List.mem_append_right _ hi))) f3 g3, Option.bind_some]
  exact Def.ret rfl
theorem fnKnotsHalf_law (code more : List Int) (o0 : okD BigN (.sl (.int .u8)) code) (o1 : okD BigN (.sl (.int .u8)) more) : l_FnKnotsHalf_m 1048700 code more = some true := fnKnotsHalf_gen 1048700 (by decide) (by decide) code more (bytes_ok o0)
end Go.Proofs.Ytlhkdngkjodgiaa

