/- Plain laws, for any program: loops, a logic of totals, the loops of the laws' own functions over all types. -/
import Derived.Test.YtokkfonfajgomaaDoorKY
set_option linter.unusedVariables false
set_option linter.unusedSimpArgs false
namespace Go.Proofs.YtokkfonfajgomaaDoor
open Go.RowKit
theorem idx_at {α : Type} {xs : List α} {n : Nat} (h : n < xs.length) : idx xs (n : Int) = some xs[n] := by
  simp only [idx, if_pos (Int.natCast_nonneg n), Int.toNat_natCast, List.getElem?_eq_getElem h]
theorem iter_scan {δ ρ : Type} (F : (δ → Option ρ) → δ → Option ρ) (len : Nat) (st : Nat → δ) (spec : Nat → Option ρ)
    (hend : ∀ go, F go (st len) = spec len) (hstep : ∀ go n, n < len → go (st (n + 1)) = spec (n + 1) → F go (st n) = spec n) :
    ∀ N n, n ≤ len → len - n < N → iter F N (st n) = spec n
  | 0, n, _, h => by omega
  | N + 1, n, hn, h => by
    show F (iter F N) (st n) = spec n
    by_cases e : n = len
    · rw [e]; exact hend _
    · exact hstep _ n (by omega) (iter_scan F len st spec hend hstep N (n + 1) (by omega) (by omega))
theorem cast_succ' (n : Nat) : ((n + 1 : Nat) : Int) = (n : Int) + 1 := by omega
theorem fits_nat {n : Nat} (h : (n : Int) ≤ 9223372036854775806) : fits ((n : Int) + 1) := by unfold fits; omega
def Def {α : Type} (m : Option α) (P : α → Prop) : Prop := ∃ r, m = some r ∧ P r
theorem Def.ret {α : Type} {x : α} {P : α → Prop} (h : P x) : Def (some x) P := ⟨x, rfl, h⟩
theorem Def.mono {α : Type} {m : Option α} {P Q : α → Prop} (h : Def m P) (hq : ∀ r, P r → Q r) : Def m Q := by
  obtain ⟨r, h1, h2⟩ := h
  exact ⟨r, h1, hq r h2⟩
theorem Def.bind {α β : Type} {m : Option α} {f : α → Option β} {P : α → Prop} {Q : β → Prop} (h : Def m P) (hf : ∀ r, P r → Def (f r) Q) : Def (Option.bind m f) Q := by
  obtain ⟨r, rfl, h2⟩ := h
  exact hf r h2
theorem Def.bif {α : Type} {b : Bool} {x y : Option α} {P : α → Prop} (h1 : b = true → Def x P) (h2 : b = false → Def y P) : Def (bif b then x else y) P := by
  cases b
  · exact h2 rfl
  · exact h1 rfl
theorem Def.dif {α : Type} {p : Prop} [Decidable p] {x y : Option α} {P : α → Prop} (h1 : p → Def x P) (h2 : ¬ p → Def y P) : Def (bif decide p then x else y) P :=
  Def.bif (fun h => h1 (of_decide_eq_true h)) (fun h => h2 (of_decide_eq_false h))
theorem Def.ite {α : Type} {p : Prop} [Decidable p] {x : Option α} {P : α → Prop} (hp : p) (h : Def x P) : Def (if p then x else none) P := by
  rw [if_pos hp]; exact h
theorem Def.upto {δ ρ : Type} {F : (δ → Option ρ) → δ → Option ρ} {P : ρ → Prop} (len : Nat) (I : Nat → δ → Prop) (hend : ∀ go g, I len g → Def (F go g) P) (hstep : ∀ go n g, n < len → I n g → (∀ g', I (n + 1) g' → Def (go g') P) → Def (F go g) P) : ∀ N n g, n ≤ len → I n g → len - n < N → Def (Go.Proofs.YtokkfonfajgomaaDoor.iter F N g) P
  | 0, n, g, _, _, h => absurd h (Nat.not_lt_zero _)
  | N + 1, n, g, hn, hI, h => by
    show Def (F (Go.Proofs.YtokkfonfajgomaaDoor.iter F N) g) P
    by_cases e : n = len
    · subst e; exact hend _ g hI
    · exact hstep _ n g (by omega) hI fun g' hI' => Def.upto len I hend hstep N (n + 1) g' (by omega) hI' (by omega)
abbrev eqLoop {α : Type} (E : α → α → Option Bool) (N : Nat) (a b : List α) : Option Bool :=
  (bif (!decide ((a.length : Int) = (b.length : Int))) then
    (some false)
    else
    (iter (fun (go : (List α × List α × Int) → Option Bool) (g : List α × List α × Int) =>
        match g with
        | (a2, b2, i) =>
        (bif (decide (i < (a2.length : Int))) then
          (Option.bind (idx a2 i) fun (e : α) =>
            (Option.bind (idx b2 i) fun (e2 : α) =>
              (Option.bind (E e e2) fun (r : Bool) =>
                (bif (!r) then
                  (some false)
                  else
                  (if fits (i + 1) then (go (a2, b2, (i + 1))) else none)))))
          else
          (some true))) N (a, b, 0)))
abbrev toLoop {α : Type} (T : α → Option α) (z : α) (m : Int) (N : Nat) (a : List α) : Option (List α) :=
  (if (a.length : Int) = (a.length : Int) ∧ 0 ≤ (a.length : Int) ∧ (a.length : Int) * m ≤ 140737488355328 ∧ (a.length : Int) ≤ 140737488355328 then
    (iter (fun (go : (List α × List α × Int) → Option (List α)) (g : List α × List α × Int) =>
        match g with
        | (a2, out, i) =>
        (bif (decide (i < (a2.length : Int))) then
          (Option.bind (idx a2 i) fun (e : α) =>
            (Option.bind (T e) fun (r : α) =>
              (if 0 ≤ i ∧ i < (out.length : Int) then
                (Option.bind (out[i.toNat]?) fun (e2 : α) =>
                  (if fits (i + 1) then (go (a2, (out.set i.toNat r), (i + 1))) else none))
                else none)))
          else
          (some out))) N (a, (List.replicate (a.length : Int).toNat z), 0))
    else none)
theorem take_set {α : Type} (a : List α) (z : α) (n : Nat) (hn : n < a.length) : (a.take n ++ List.replicate (a.length - n) z).set n a[n] = a.take (n + 1) ++ List.replicate (a.length - (n + 1)) z := by
  have h1 : (a.take n).length = n := by simp; omega
  rw [List.set_append, if_neg (by omega), h1, Nat.sub_self, show a.length - n = (a.length - (n + 1)) + 1 from by omega, List.replicate_succ, List.set_cons_zero, List.take_succ_eq_append_getElem hn, List.append_assoc]
  rfl
theorem toLoop_spec {α : Type} (T : α → Option α) (z : α) (m : Int) (N : Nat) (a : List α) (h : a.length < N) (hN : N ≤ 1099511627776) (hm : (a.length : Int) * m ≤ 140737488355328) (hT : ∀ x, x ∈ a → T x = some x) : toLoop T z m N a = some a := by
  unfold toLoop
  rw [if_pos ⟨rfl, by omega, hm, by omega⟩]
  refine (iter_scan _ a.length (fun n => (a, a.take n ++ List.replicate (a.length - n) z, (n : Int))) (fun n => some a) (fun go => ?_) (fun go n hn hgo => ?_) N 0 (Nat.zero_le _) (by omega))
  · dsimp only
    rw [decide_eq_false (Int.lt_irrefl _), cond_false, List.take_length, Nat.sub_self]
    simp
  · have hn' : (n : Int) < (a.length : Int) := by omega
    have hol : (a.take n ++ List.replicate (a.length - n) z).length = a.length := by simp; omega
    dsimp only
    rw [decide_eq_true hn', cond_true, idx_at hn, Option.bind_some, hT _ (List.getElem_mem hn), Option.bind_some, if_pos (by omega), Int.toNat_natCast, List.getElem?_eq_getElem (by omega), Option.bind_some, if_pos (fits_nat (n := n) (by omega)), take_set a z n hn]
    simp only [cast_succ'] at hgo
    exact hgo
def mcnt {α : Type} (c : α → Nat) : List α → Nat
  | [] => 0
  | x :: xs => c x + mcnt c xs
theorem mcnt_take {α : Type} (c : α → Nat) : ∀ (xs : List α) (n : Nat) (h : n < xs.length), mcnt c (xs.take (n + 1)) = mcnt c (xs.take n) + c xs[n]
  | x :: xs, 0, _ => by simp [mcnt]
  | x :: xs, n + 1, h => by
    simp only [List.take_succ_cons, mcnt, List.getElem_cons_succ]
    rw [mcnt_take c xs n (by simpa using h)]; omega
def SzP (n : Nat) (left : Int) (m : Option Int) (P : Prop) : Prop := Def m fun r => r = -1 ∨ (0 ≤ r ∧ r + (n : Int) ≤ left ∧ P)
abbrev szLoop {α : Type} (Z : α → Int → Option Int) (N : Nat) (a : List α) (left : Int) : Option Int :=
  (if fits (left - (a.length : Int)) then (bif (decide ((left - (a.length : Int)) < 0)) then
      (some (-1))
      else
      (iter (fun (go : (List α × Int × Int) → Option Int) (g : List α × Int × Int) =>
          match g with
          | (a2, left2, i) =>
          (bif (decide (i < (a2.length : Int))) then
            (Option.bind (idx a2 i) fun (e : α) =>
              (Option.bind (Z e left2) fun (r : Int) =>
                (bif (decide (r < 0)) then
                  (some (-1))
                  else
                  (if fits (i + 1) then (go (a2, r, (i + 1))) else none))))
            else
            (some left2))) N (a, (left - (a.length : Int)), 0))) else none)
theorem szLoop_spec {α : Type} (Z : α → Int → Option Int) (N : Nat) (hN : 1048576 < N) (P : α → Prop) (T : α → Nat) (a : List α) (left : Int) (hl : a.length ≤ BigN) (h0 : 0 ≤ left) (h1 : left ≤ 1048576) (hZ : ∀ x, x ∈ a → ∀ l, 0 ≤ l → l ≤ 1048576 → SzP (T x) l (Z x l) (P x)) :
    SzP (mcnt T a + a.length) left (szLoop Z N a left) (a.length ≤ 1048576 ∧ ∀ x, x ∈ a → P x) := by
  unfold SzP szLoop
  have hl' : (a.length : Int) ≤ 9223372036854775807 := by have : a.length ≤ 9223372036854775807 := hl; omega
  refine Def.ite (by unfold fits; omega) ?_
  refine Def.dif (fun e => Def.ret (.inl rfl)) (fun e => ?_)
  refine Def.upto a.length (fun n g => ∃ l : Int, 0 ≤ l ∧ l + (mcnt T (a.take n) + a.length : Nat) ≤ left ∧ (∀ x, x ∈ a.take n → P x) ∧ g = (a, l, (n : Int))) ?_ ?_ N 0 _ (Nat.zero_le _) ⟨_, by omega, by simp only [List.take_zero, mcnt]; omega, by simp, rfl⟩ (by omega)
  · rintro go _ ⟨l, hl0, hl1, hP, rfl⟩
    dsimp only
    rw [decide_eq_false (Int.lt_irrefl _), cond_false]
    rw [List.take_length] at hl1
    exact Def.ret (.inr ⟨hl0, hl1, by omega, by rwa [List.take_length] at hP⟩)
  · rintro go n _ hn ⟨l, hl0, hl1, hP, rfl⟩ hgo
    dsimp only
    have hmc := mcnt_take T a n hn
    rw [decide_eq_true (by omega : (n : Int) < (a.length : Int)), cond_true, idx_at hn, Option.bind_some]
    refine Def.bind (hZ _ (List.getElem_mem hn) l hl0 (by omega)) fun r hr => ?_
    refine Def.dif (fun e => Def.ret (.inl rfl)) (fun e => ?_)
    rcases hr with hr | ⟨r0, r1, hx⟩
    · omega
    refine Def.ite (fits_nat (n := n) (by omega)) ?_
    refine hgo _ ⟨r, r0, by omega, fun x hx' => ?_, by rw [cast_succ']⟩
    rw [List.take_succ_eq_append_getElem hn, List.mem_append, List.mem_singleton] at hx'
    rcases hx' with hx' | rfl
    · exact hP x hx'
    · exact hx
def szLoop2 (N : Nat) (a : List (List UInt8)) (left : Int) : Option Int :=
  (if fits (left - (a.length : Int)) then (bif (decide ((left - (a.length : Int)) < 0)) then
    (some (-1))
  else
    (iter (fun (go : ((List (List UInt8)) × Int × Int) → Option Int) (g : (List (List UInt8)) × Int × Int) =>
      match g with
      | (a2, left2, i) =>
        (bif (decide (i < (a2.length : Int))) then
          (Option.bind (idx a2 i) fun (e : List UInt8) =>
            (if fits (left2 - (e.length : Int)) then (bif (decide ((left2 - (e.length : Int)) < 0)) then
              (some (-1))
            else
              (if fits (i + 1) then (go (a2, (left2 - (e.length : Int)), (i + 1))) else none)) else none))
        else
          (some left2))) N (a, (left - (a.length : Int)), 0))) else none)
theorem szLoop2_spec (N : Nat) (hN : 1048576 < N) (a : List (List UInt8)) (left : Int) (hl : a.length ≤ BigN) (h0 : 0 ≤ left) (h1 : left ≤ 1048576) (hZ : ∀ x, x ∈ a → x.length ≤ BigN) :
    SzP (mcnt List.length a + a.length) left (szLoop2 N a left) (a.length ≤ 1048576 ∧ ∀ x, x ∈ a → x.length ≤ 1048576) := by
  unfold SzP szLoop2
  have hl' : (a.length : Int) ≤ 9223372036854775807 := by have : a.length ≤ 9223372036854775807 := hl; omega
  refine Def.ite (by unfold fits; omega) ?_
  refine Def.dif (fun e => Def.ret (.inl rfl)) (fun e => ?_)
  refine Def.upto a.length (fun n g => ∃ l : Int, 0 ≤ l ∧ l + (mcnt List.length (a.take n) + a.length : Nat) ≤ left ∧ (∀ x, x ∈ a.take n → x.length ≤ 1048576) ∧ g = (a, l, (n : Int))) ?_ ?_ N 0 _ (Nat.zero_le _) ⟨_, by omega, by simp only [List.take_zero, mcnt]; omega, by simp, rfl⟩ (by omega)
  · rintro go _ ⟨l, hl0, hl1, hP, rfl⟩
    dsimp only
    rw [decide_eq_false (Int.lt_irrefl _), cond_false]
    rw [List.take_length] at hl1
    exact Def.ret (.inr ⟨hl0, hl1, by omega, by rwa [List.take_length] at hP⟩)
  · rintro go n _ hn ⟨l, hl0, hl1, hP, rfl⟩ hgo
    dsimp only
    have hmc := mcnt_take List.length a n hn
    rw [decide_eq_true (by omega : (n : Int) < (a.length : Int)), cond_true, idx_at hn, Option.bind_some]
    have hx : (a[n].length : Int) ≤ 9223372036854775807 := by have : a[n].length ≤ 9223372036854775807 := hZ _ (List.getElem_mem hn); omega
    refine Def.ite (by unfold fits; omega) ?_
    refine Def.dif (fun e => Def.ret (.inl rfl)) (fun e => ?_)
    refine Def.ite (fits_nat (n := n) (by omega)) ?_
    refine hgo _ ⟨l - a[n].length, by omega, by omega, fun x hx' => ?_, by rw [cast_succ']⟩
    rw [List.take_succ_eq_append_getElem hn, List.mem_append, List.mem_singleton] at hx'
    rcases hx' with hx' | rfl
    · exact hP x hx'
    · omega
theorem SzP.neg {k : Nat} {left : Int} {m : Option Int} {P Q : Prop} (h : SzP k left m P) (hq : P → Q) : SzP k left (Option.bind m fun r => bif decide (r < 0) then some (-1) else some r) Q := by
  refine Def.bind h fun r hr => ?_
  refine Def.dif (fun e => Def.ret (.inl rfl)) (fun e => Def.ret (.inr ?_))
  rcases hr with hr | ⟨r0, r1, hx⟩
  · omega
  · exact ⟨r0, r1, hq hx⟩
theorem SzP.then {k j : Nat} {left : Int} {m : Option Int} {f : Int → Option Int} {P Q R : Prop} (h : SzP k left m P) (hf : ∀ r, 0 ≤ r → r ≤ left → SzP j r (f r) Q) (hr : P → Q → R) : SzP (j + k) left (Option.bind m fun r => bif decide (r < 0) then some (-1) else f r) R := by
  refine Def.bind h fun r hr' => ?_
  refine Def.dif (fun e => Def.ret (.inl rfl)) (fun e => ?_)
  rcases hr' with hr' | ⟨r0, r1, hx⟩
  · omega
  · exact (hf r r0 (by omega)).mono fun u hu => hu.imp id fun ⟨a, b, c⟩ => ⟨a, by omega, hr hx c⟩
theorem SzP.len {k : Nat} {left : Int} {n : Nat} {f : Option Int} {Q R : Prop} (hn : n ≤ BigN) (h0 : 0 ≤ left) (h1 : left ≤ 1048576) (hf : 0 ≤ left - n → left - n ≤ left → SzP k (left - n) f Q) (hr : n ≤ 1048576 → Q → R) :
    SzP (k + n) left (if fits (left - (n : Int)) then (bif decide (left - (n : Int) < 0) then some (-1) else f) else none) R := by
  have hn' : (n : Int) ≤ 9223372036854775807 := by have : n ≤ 9223372036854775807 := hn; omega
  refine Def.ite (by unfold fits; omega) ?_
  refine Def.dif (fun e => Def.ret (.inl rfl)) (fun e => ?_)
  exact (hf (by omega) (by omega)).mono fun u hu => hu.imp id fun ⟨a, b, c⟩ => ⟨a, by omega, hr (by omega) c⟩
section
variable {α : Type} (M : α → Int → α) (c : α → Nat)
end
abbrev Sm : Nat := 1048576
theorem SzP.imp {k j : Nat} {left : Int} {m : Option Int} {P Q : Prop} (h : SzP k left m P) (hj : j ≤ k) (hq : P → Q) : SzP j left m Q := h.mono fun u hu => hu.imp id fun ⟨a, b, c⟩ => ⟨a, by omega, hq c⟩
end Go.Proofs.YtokkfonfajgomaaDoor
