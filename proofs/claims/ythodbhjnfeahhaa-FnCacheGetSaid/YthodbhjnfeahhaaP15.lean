/- Plain laws: a logic of totals; what the reader of draws gives. -/
import Derived.Test.YthodbhjnfeahhaaP14
set_option linter.unusedVariables false
set_option linter.unusedSimpArgs false
namespace Go.Proofs.Ythodbhjnfeahhaa
open Go.RowKit
/-- It gives a result, and that is as told. -/
def Def {α : Type} (m : Option α) (P : α → Prop) : Prop := ∃ r, m = some r ∧ P r
theorem Def.ret {α : Type} {x : α} {P : α → Prop} (h : P x) : Def (some x) P := ⟨x, rfl, h⟩
theorem Def.mono {α : Type} {m : Option α} {P Q : α → Prop} (h : Def m P) (hq : ∀ r, P r → Q r) : Def m Q := by
  obtain ⟨r, h1, h2⟩ := h
  exact ⟨r, h1, hq r h2⟩
theorem Def.bind {α β : Type} {m : Option α} {f : α → Option β} {P : α → Prop} {Q : β → Prop} (h : Def m P) (hf : ∀ r, P r → Def (f r) Q) : Def (Option.bind m f) Q := by
  obtain ⟨r, rfl, h2⟩ := h
  exact hf r h2
theorem Def.bif {α : Type} {b : Bool} {x y : Option α} {P : α → Prop} (h1 : b = true → Def x P) (h2 : b = false → Def y P) : Def (bif b then x else y) P := by
  cases b
  · exact h2 rfl
  · exact h1 rfl
theorem Def.dif {α : Type} {p : Prop} [Decidable p] {x y : Option α} {P : α → Prop} (h1 : p → Def x P) (h2 : ¬ p → Def y P) : Def (bif decide p then x else y) P :=
  Def.bif (fun h => h1 (of_decide_eq_true h)) (fun h => h2 (of_decide_eq_false h))
theorem Def.ite {α : Type} {p : Prop} [Decidable p] {x : Option α} {P : α → Prop} (hp : p) (h : Def x P) : Def (if p then x else none) P := by
  rw [if_pos hp]; exact h
theorem Def.eq {α : Type} {m : Option α} {x : α} (h : m = some x) : Def m (fun r => r = x) := ⟨x, h, rfl⟩
theorem Def.get {α : Type} {m : Option α} {x : α} (h : Def m (fun r => r = x)) : m = some x := by
  obtain ⟨r, h1, rfl⟩ := h
  exact h1
theorem Def.idx {α β : Type} {xs : List α} {i : Int} {f : α → Option β} {Q : β → Prop} (h0 : 0 ≤ i) (h1 : i < xs.length) (h : ∀ x, x ∈ xs → xs[i.toNat]? = some x → Def (f x) Q) : Def (Option.bind (idx xs i) f) Q := by
  have hl : i.toNat < xs.length := by omega
  have e : Go.Proofs.Ythodbhjnfeahhaa.idx xs i = some xs[i.toNat] := by simp only [Go.Proofs.Ythodbhjnfeahhaa.idx, if_pos h0, List.getElem?_eq_getElem hl]
  rw [e]
  exact h _ (List.getElem_mem hl) (List.getElem?_eq_getElem hl)
theorem Def.cut {α β : Type} {xs : List α} {l h : Int} {f : List α → Option β} {Q : β → Prop} (h0 : 0 ≤ l) (h1 : l ≤ h) (h2 : h ≤ xs.length) (hf : Def (f ((xs.take h.toNat).drop l.toNat)) Q) : Def (Option.bind (cut xs l h) f) Q := by
  unfold Go.Proofs.Ythodbhjnfeahhaa.cut
  rw [if_pos ⟨h0, h1, h2⟩]
  exact hf
theorem Def.meet {δ ρ : Type} {J : δ → Option ρ} {X : (δ → Option ρ) → Option ρ} {P : ρ → Prop} (I : δ → Prop) (hJ : ∀ g, I g → Def (J g) P) (hX : ∀ J' : δ → Option ρ, (∀ g, I g → Def (J' g) P) → Def (X J') P) : Def (meet J X) P := hX J hJ
theorem Def.iter {δ ρ : Type} {F : (δ → Option ρ) → δ → Option ρ} {P : ρ → Prop} (I : δ → Prop) (meas : δ → Nat) (hstep : ∀ go g, I g → (∀ g', I g' → meas g' < meas g → Def (go g') P) → Def (F go g) P) : ∀ N g, I g → meas g < N → Def (iter F N g) P
  | 0, g, _, h => absurd h (Nat.not_lt_zero _)
  | N + 1, g, hI, h => hstep _ g hI fun g' hI' hm => Def.iter I meas hstep N g' hI' (by omega)
/-- A loop that counts up to len: the invariant at each place. -/
theorem Def.upto {δ ρ : Type} {F : (δ → Option ρ) → δ → Option ρ} {P : ρ → Prop} (len : Nat) (I : Nat → δ → Prop) (hend : ∀ go g, I len g → Def (F go g) P) (hstep : ∀ go n g, n < len → I n g → (∀ g', I (n + 1) g' → Def (go g') P) → Def (F go g) P) : ∀ N n g, n ≤ len → I n g → len - n < N → Def (Go.Proofs.Ythodbhjnfeahhaa.iter F N g) P
  | 0, n, g, _, _, h => absurd h (Nat.not_lt_zero _)
  | N + 1, n, g, hn, hI, h => by
    show Def (F (Go.Proofs.Ythodbhjnfeahhaa.iter F N) g) P
    by_cases e : n = len
    · subst e; exact hend _ g hI
    · exact hstep _ n g (by omega) hI fun g' hI' => Def.upto len I hend hstep N (n + 1) g' (by omega) hI' (by omega)
/-! ### the reader -/
def Rdr (b : List Int) (k : Int) (j : Nat) : Prop := Bs b ∧ b.length ≤ 2000 ∧ 0 ≤ k ∧ k ≤ j
theorem Rdr.le {b : List Int} {k : Int} {j j' : Nat} (h : Rdr b k j) (hj : j ≤ j') : Rdr b k j' := ⟨h.1, h.2.1, h.2.2.1, by have := h.2.2.2; omega⟩
theorem pick_def (N : Nat) (n : Int) {b : List Int} {k : Int} {j : Nat} (h : Rdr b k j) (hj : j ≤ 1000000) : Def (s_l30Rd_pick_m N n b k) fun r => 0 ≤ r.1 ∧ (1 ≤ n → r.1 < n) ∧ (n < 1 → r.1 = 0) ∧ Rdr r.2.1 r.2.2 (j + 1) := by
  obtain ⟨v, h1, h2, h3, h4⟩ := pick_spec N n b k h.1 h.2.2.1 (by have := h.2.2.2; omega) h.2.1
  exact ⟨_, h1, h2, h3, h4, h.1, h.2.1, by have := h.2.2.1; show (0:Int) ≤ k + 1; omega, by have := h.2.2.2; show k + 1 ≤ ((j + 1 : Nat) : Int); omega⟩
theorem of_def (N : Nat) {l : List (List UInt8)} {b : List Int} {k : Int} {j : Nat} (hl : 0 < l.length) (h : Rdr b k j) (hj : j ≤ 1000000) : Def (s_l30Rd_of_m N l b k) fun r => r.1 ∈ l ∧ Rdr r.2.1 r.2.2 (j + 1) := by
  unfold s_l30Rd_of_m
  refine Def.bind (pick_def N _ h hj) fun r ⟨h0, h1, _, h3⟩ => ?_
  exact Def.idx h0 (h1 (by omega)) fun x hx _ => Def.ret ⟨hx, h3⟩
theorem one_def (N : Nat) {l : List Int} {b : List Int} {k : Int} {j : Nat} (hl : 0 < l.length) (h : Rdr b k j) (hj : j ≤ 1000000) : Def (s_l30Rd_one_m N l b k) fun r => r.1 ∈ l ∧ Rdr r.2.1 r.2.2 (j + 1) := by
  unfold s_l30Rd_one_m
  refine Def.bind (pick_def N _ h hj) fun r ⟨h0, h1, _, h3⟩ => ?_
  exact Def.idx h0 (h1 (by omega)) fun x hx _ => Def.ret ⟨hx, h3⟩
theorem open_def (N : Nat) {code : List Int} (hb : Bs code) : Def (s_l30Open_m N code) fun r => Rdr r.1 r.2 0 := by
  obtain ⟨y, h1, h2, h3⟩ := open_spec N code hb
  exact ⟨_, h1, h2, h3, Int.le_refl _, Int.le_refl _⟩
/-- A leaf that is drawn. -/
structure LeafOk (q : Int) (f : List UInt8) (ws : List (List UInt8)) (a b : Int) : Prop where
  kind : 1 ≤ q ∧ q ≤ 6
  field : f.length ≤ 10
  words : ws.length ≤ 2
  word : ∀ w, w ∈ ws → w.length ≤ 10
  some : q = 2 ∨ q = 4 ∨ q = 5 → 0 < ws.length
  lo : 0 ≤ a ∧ a ≤ 10
  hi : 0 ≤ b ∧ b ≤ 10
theorem known_mem (N : Nat) : Def (s_l30Known_m N) fun r => 0 < r.length ∧ ∀ w, w ∈ r → w.length ≤ 10 := ⟨_, rfl, by decide, by decide⟩
theorem leaf_def (N : Nat) {b : List Int} {k : Int} {j : Nat} (h : Rdr b k j) (hj : j ≤ 100000) : Def (s_l30Leaf_m N b k) fun r => LeafOk r.1 r.2.1 r.2.2.1 r.2.2.2.1 r.2.2.2.2.1 ∧ Rdr r.2.2.2.2.2.1 r.2.2.2.2.2.2 (j + 10) := by
  unfold s_l30Leaf_m
  refine Def.bind (of_def N (by decide) h (by omega)) fun r ⟨m1, h1⟩ => ?_
  have hf : r.1.length ≤ 10 := (by decide : ∀ w, w ∈ ([([98, 111, 100, 121] : List UInt8), ([98, 111, 100, 121] : List UInt8), ([116, 105, 116, 108, 101] : List UInt8)] : List (List UInt8)) → w.length ≤ 10) _ m1
  refine Def.bind (pick_def N 9 h1 (by omega)) fun r2 ⟨p0, p1, _, h2⟩ => ?_
  have p1 := p1 (by omega)
  refine Def.dif (fun e => ?_) (fun e => ?_)
  · exact Def.ret ⟨⟨by simp, by simp, by simp, by simp, by simp, by simp, by simp⟩, h2.le (by omega)⟩
  refine Def.dif (fun e1 => ?_) (fun e1 => ?_)
  · refine Def.bind (known_mem N) fun r3 ⟨k1, k2⟩ => ?_
    refine Def.bind (of_def N k1 h2 (by omega)) fun r4 ⟨m4, h4⟩ => ?_
    refine Def.bind (known_mem N) fun r5 ⟨k3, k4⟩ => ?_
    refine Def.bind (of_def N k3 h4 (by omega)) fun r6 ⟨m6, h6⟩ => ?_
    refine Def.bind (pick_def N 3 h6 (by omega)) fun r7 ⟨q0, q1, _, h7⟩ => ?_
    have q1 := q1 (by omega)
    exact Def.ret ⟨⟨by simp, hf, by simp, (by simpa using ⟨k2 _ m4, k4 _ m6⟩), by simp, ⟨q0, (show r7.1 ≤ 10 by omega)⟩, by simp⟩, h7.le (by omega)⟩
  refine Def.dif (fun e2 => ?_) (fun e2 => ?_)
  · refine Def.bind (of_def N (by decide) h2 (by omega)) fun r8 ⟨m8, h8⟩ => ?_
    have hw : r8.1.length ≤ 10 := (by decide : ∀ w, w ∈ ([([99, 111, 116] : List UInt8), ([100, 117, 103] : List UInt8), ([114, 110] : List UInt8), ([102, 111, 103] : List UInt8)] : List (List UInt8)) → w.length ≤ 10) _ m8
    refine Def.bind (pick_def N 2 h8 (by omega)) fun r9 ⟨q0, q1, _, h9⟩ => ?_
    have q1 := q1 (by omega)
    refine Def.ite (by unfold fits; omega) ?_
    exact Def.ret ⟨⟨by simp, hf, by simp, (by simpa using hw), (fun _ => by simp), ⟨(show 0 ≤ 1 + r9.1 by omega), (show 1 + r9.1 ≤ 10 by omega)⟩, by simp⟩, h9.le (by omega)⟩
  refine Def.dif (fun e3 => ?_) (fun e3 => ?_)
  · refine Def.bind (of_def N (by decide) h2 (by omega)) fun r10 ⟨m10, h10⟩ => ?_
    have hw : r10.1.length ≤ 10 := (by decide : ∀ w, w ∈ ([([99, 42] : List UInt8), ([63, 111, 63] : List UInt8), ([42, 110] : List UInt8), ([42] : List UInt8)] : List (List UInt8)) → w.length ≤ 10) _ m10
    exact Def.ret ⟨⟨by simp, hf, by simp, (by simpa using hw), (fun _ => by simp), by simp, by simp⟩, h10.le (by omega)⟩
  refine Def.dif (fun e4 => ?_) (fun e4 => ?_)
  · refine Def.bind (pick_def N 4 h2 (by omega)) fun r11 ⟨q0, q1, _, h11⟩ => ?_
    refine Def.bind (pick_def N 3 h11 (by omega)) fun r12 ⟨s0, s1, _, h12⟩ => ?_
    have q1 := q1 (by omega)
    have s1 := s1 (by omega)
    refine Def.ite (by unfold fits; omega) ?_
    exact Def.ret ⟨⟨by simp, by simp, by simp, by simp, by simp, ⟨q0, (show r11.1 ≤ 10 by omega)⟩, ⟨(show 0 ≤ r11.1 + r12.1 by omega), (show r11.1 + r12.1 ≤ 10 by omega)⟩⟩, h12.le (by omega)⟩
  · refine Def.bind (known_mem N) fun r13 ⟨k1, k2⟩ => ?_
    refine Def.bind (of_def N k1 h2 (by omega)) fun r14 ⟨m14, h14⟩ => ?_
    exact Def.ret ⟨⟨by simp, hf, by simp, (by simpa using k2 _ m14), (fun _ => by simp), by simp, by simp⟩, h14.le (by omega)⟩
/-- Figures of a number that is not great. -/
theorem dec_def (N : Nat) : ∀ (D : Nat) (n : Int), D ≤ 1000000 → 0 ≤ n → n ≤ 999999999999999 → n < 10 ^ (D + 1) → Def (s_l1Dec_m N (D + 1) n) fun r => r.length ≤ D + 1
  | D, n, hD, h0, hn, h1 => by
    unfold s_l1Dec_m
    refine Def.dif (fun e => absurd e (by omega)) (fun _ => ?_)
    refine Def.dif (fun e => absurd e (by omega)) (fun _ => ?_)
    refine Def.dif (fun e => ?_) (fun e => ?_)
    · refine Def.ite (by unfold fits; omega) (Def.ret ?_)
      simp [bytesOf]
    · have d0 : 0 ≤ n.tdiv 10 := Int.tdiv_nonneg h0 (by omega)
      have d2 : n.tdiv 10 ≤ n := by
        rw [Int.tdiv_eq_ediv_of_nonneg h0]; omega
      have d1 : n.tdiv 10 < 10 ^ D := by
        rw [Int.tdiv_eq_ediv_of_nonneg h0]
        rw [Int.pow_succ] at h1
        omega
      have m0 : 0 ≤ n.tmod 10 := Int.tmod_nonneg 10 h0
      have m1 : n.tmod 10 < 10 := Int.tmod_lt_of_pos n (by omega)
      have hne : D ≠ 0 := fun e => by
        subst e
        rw [Int.pow_succ, Int.pow_zero] at h1
        omega
      obtain ⟨E, rfl⟩ : ∃ E, D = E + 1 := ⟨D - 1, by omega⟩
      refine Def.ite (by decide) (Def.ite (by unfold fits; omega) ?_)
      refine Def.bind (dec_def N E _ (by omega) d0 (by omega) d1) fun r hr => ?_
      refine Def.ite (by decide) (Def.ite (by unfold fits; omega) (Def.ite ?_ (Def.ret ?_)))
      · simp [bytesOf]; omega
      · simp [bytesOf]; omega
end Go.Proofs.Ythodbhjnfeahhaa
