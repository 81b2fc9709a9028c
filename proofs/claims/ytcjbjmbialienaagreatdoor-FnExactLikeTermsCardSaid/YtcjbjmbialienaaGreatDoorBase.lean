/- Plain words for what Go values hold in memory: no program in sight. -/
import Derived.WalkKit
import Derived.WalkSpells
import Derived.WalkLawsBesides
import Derived.Deep.RegionHeld3
import Derived.Deep.RegionLaw
import Derived.Deep.RegionWith
import Derived.Deep.DeepCutAuto
import Derived.Deep.LoopGhost
import Derived.Deep.QuietTactic
import Derived.BigQuiet
import Derived.Lib.Hide
import Derived.Handy
set_option linter.unusedSimpArgs false
set_option linter.unusedVariables false
namespace Go.Proofs.YtcjbjmbialienaaGreatDoor
open Go.RowKit
abbrev Blk := Nat → Prop
def Same (p : Blk) (w w' : World) : Prop := ∀ b, p b → w'.heap[b]? = w.heap[b]?
structure Upd (p : Blk) (w w' : World) : Prop where
 os : w'.os = w.os
 tape : w'.tape = w.tape
 output : w'.output = w.output
 size : w.heap.size ≤ w'.heap.size
 block : ∀ k, k < w.heap.size → ¬ p k → w'.heap[k]? = w.heap[k]?
theorem Upd.refl (p : Blk) (w : World) : Upd p w w := ⟨rfl, rfl, rfl, Nat.le_refl _, fun _ _ _ => rfl⟩
theorem Upd.trans {p : Blk} {a b c : World} (h : Upd p a b) (k : Upd p b c) : Upd p a c :=
 ⟨k.os.trans h.os, k.tape.trans h.tape, k.output.trans h.output, Nat.le_trans h.size k.size, fun i hi hn => (k.block i (Nat.lt_of_lt_of_le hi h.size) hn).trans (h.block i hi hn)⟩
theorem Upd.mono {p q : Blk} {a b : World} (h : Upd p a b) (hs : ∀ k, p k → k < a.heap.size → q k) : Upd q a b :=
 ⟨h.os, h.tape, h.output, h.size, fun i hi hn => h.block i hi (fun hf => hn (hs i hf hi))⟩
theorem Upd.of_below {p : Blk} {a b : World} (h : Below a.heap.size a b) : Upd p a b := ⟨h.os, h.tape, h.output, h.size, fun k hk _ => h.block k hk⟩
theorem Upd.below {p : Blk} {a b : World} (h : Upd p a b) (hs : ∀ k, p k → a.heap.size ≤ k) : Below a.heap.size a b :=
 ⟨h.os, h.tape, h.output, h.size, fun k hk => h.block k hk (fun hf => by have := hs k hf; omega)⟩
theorem Upd.drew {p : Blk} {a b : World} (h : Upd p a b) : Upd p a b.drew := ⟨h.os, h.tape, h.output, h.size, h.block⟩
theorem Upd.setCell {p : Blk} {a b : World} (h : Upd p a b) {x : Addr} (hx : p x.block ∨ a.heap.size ≤ x.block) (v : Value) : Upd p a (b.setCell x v) :=
 ⟨h.os, h.tape, h.output, by simpa [World.setCell] using h.size, fun k hk hn => by
  rw [Below.heap_setCell _ _ _ _ (by rintro rfl; rcases hx with hx | hx; exact hn hx; omega)]; exact h.block k hk hn⟩
theorem Upd.same {p : Blk} {a b : World} (h : Upd p a b) : Same (fun k => k < a.heap.size ∧ ¬ p k) a b := fun k hk => h.block k hk.1 hk.2
theorem below_same {B : Nat} {a b : World} (h : Below B a b) : Same (fun k => k < B) a b := fun k hk => h.block k hk
theorem Same.mono {p q : Blk} {a b : World} (h : Same p a b) (hs : ∀ k, q k → p k) : Same q a b := fun k hk => h k (hs k hk)
theorem Same.trans {p : Blk} {a b c : World} (h : Same p a b) (h' : Same p b c) : Same p a c := fun k hk => (h' k hk).trans (h k hk)
theorem Same.cell {p : Blk} {a b : World} (h : Same p a b) {k o : Nat} (hk : p k) : b.cell? ⟨k, o, none⟩ = a.cell? ⟨k, o, none⟩ := World.cell?_of_block (w := a) (h k hk)
theorem Same.frozen {p : Blk} {a b : World} (h : Same p a b) {k o : Nat} (hk : p k) : b.frozen? ⟨k, o, none⟩ = a.frozen? ⟨k, o, none⟩ := World.frozen?_of_block (w := a) (h k hk)
theorem lt_of_cell {w : World} {b o : Nat} {v : Value} (h : w.cell? ⟨b, o, none⟩ = some v) : b < w.heap.size := World.block_lt_of_cell? _ _ h
theorem lt_of_at {w : World} {b : Nat} {o : Obj} (h : w.heap[b]? = some o) : b < w.heap.size := (Array.getElem?_eq_some_iff.1 h).1
theorem bcell {W w1 : World} (hb : Below W.heap.size W w1) : (∀ b o, b < W.heap.size → w1.cell? ⟨b, o, none⟩ = W.cell? ⟨b, o, none⟩) ∧ (∀ b o, b < W.heap.size → w1.frozen? ⟨b, o, none⟩ = W.frozen? ⟨b, o, none⟩) :=
 ⟨fun b o h => hb.cell (p := ⟨b, o, none⟩) h, fun b o h => hb.frozen (p := ⟨b, o, none⟩) h⟩
abbrev CRep (α : Type) := World → List Value → α → Blk → Prop
structure Good {α : Type} (m : Nat) (C : CRep α) : Prop where
 len : ∀ {w : World} {cs : List Value} {x : α} {p : Blk}, C w cs x p → cs.length = m
 one : ∀ {w : World} {cs : List Value} {x : α} {p : Blk}, C w cs x p → ∀ u, u ∈ cs → u.oneCell' = true
 same : ∀ {w w' : World} {cs : List Value} {x : α} {p : Blk}, C w cs x p → Same p w w' → C w' cs x p
 mono : ∀ {w : World} {cs : List Value} {x : α} {p q : Blk}, C w cs x p → (∀ k, p k → q k) → C w cs x q
 bound : ∀ {w : World} {cs : List Value} {x : α} {p : Blk}, C w cs x p → C w cs x (fun k => p k ∧ k < w.heap.size)
def SRep {α : Type} (m : Nat) (C : CRep α) (w : World) (v : Value) (xs : List α) (p : Blk) : Prop :=
 ∃ a cap, v = .slice a xs.length cap ∧ (xs.length ≤ 9223372036854775807 ∧ xs.length ≤ cap) ∧ ∀ i x, xs[i]? = some x →
  ∃ b o cs, a = some ⟨b, o, none⟩ ∧ p b ∧ b < w.heap.size ∧ cs.length = m ∧ (∀ j c, cs[j]? = some c → w.cell? ⟨b, o + i * m + j, none⟩ = some c) ∧ C w cs x p
def SOwn {α : Type} (m : Nat) (C : CRep α) (w : World) (v : Value) (xs : List α) (p : Blk) : Prop :=
 ∃ a cap, v = .slice a xs.length cap ∧ (xs.length ≤ 9223372036854775807 ∧ xs.length ≤ cap) ∧ (xs = [] ∨ ∃ b o, ∃ q : Nat → Blk, a = some ⟨b, o, none⟩ ∧ p b ∧ b < w.heap.size ∧ (∀ j, w.frozen? ⟨b, j, none⟩ = false) ∧
  (∀ i, ¬ q i b) ∧ (∀ i k, q i k → p k) ∧ (∀ i j k, i ≠ j → q i k → ¬ q j k) ∧ ∀ i x, xs[i]? = some x →
   ∃ cs, cs.length = m ∧ (∀ j c, cs[j]? = some c → w.cell? ⟨b, o + i * m + j, none⟩ = some c) ∧ C w cs x (q i))
section
variable {α : Type} {m : Nat} {C : CRep α} {w w' : World} {v : Value} {xs : List α} {p q : Blk}
theorem SRep.same (hC : Good m C) (h : SRep m C w v xs p) (hs : Same p w w') : SRep m C w' v xs p := by
 obtain ⟨a, cap, hv, hl, h⟩ := h
 refine ⟨a, cap, hv, hl, fun i x hx => ?_⟩
 obtain ⟨b, o, cs, ha, hp, hb, hn, hc, hC'⟩ := h i x hx
 refine ⟨b, o, cs, ha, hp, ?_, hn, fun j c hj => (hs.cell hp).trans (hc j c hj), hC.same hC' hs⟩
 have e := hs b hp
 rw [Array.getElem?_eq_getElem hb] at e
 exact lt_of_at e
theorem SRep.mono (hC : Good m C) (h : SRep m C w v xs p) (hs : ∀ k, p k → q k) : SRep m C w v xs q := by
 obtain ⟨a, cap, hv, hl, h⟩ := h
 refine ⟨a, cap, hv, hl, fun i x hx => ?_⟩
 obtain ⟨b, o, cs, ha, hp, hb, hn, hc, hC'⟩ := h i x hx
 exact ⟨b, o, cs, ha, hs b hp, hb, hn, hc, hC.mono hC' hs⟩
theorem SRep.bound (hC : Good m C) (h : SRep m C w v xs p) : SRep m C w v xs (fun k => p k ∧ k < w.heap.size) := by
 obtain ⟨a, cap, hv, hl, h⟩ := h
 refine ⟨a, cap, hv, hl, fun i x hx => ?_⟩
 obtain ⟨b, o, cs, ha, hp, hb, hn, hc, hC'⟩ := h i x hx
 exact ⟨b, o, cs, ha, ⟨hp, hb⟩, hb, hn, hc, hC.bound hC'⟩
theorem SRep.later (hC : Good m C) (h : SRep m C w v xs p) (hb : Below w.heap.size w w') : SRep m C w' v xs p :=
 ((h.bound hC).same hC ((below_same hb).mono (fun _ hk => hk.2))).mono hC (fun _ hk => hk.1)
theorem SRep.upd (hC : Good m C) (h : SRep m C w v xs p) (hu : Upd q w w') (hd : ∀ k, p k → ¬ q k) : SRep m C w' v xs p :=
 ((h.bound hC).same hC (hu.same.mono (fun k hk => ⟨hk.2, hd k hk.1⟩))).mono hC (fun _ hk => hk.1)
theorem SRep.opn (h : SRep m C w v xs p) :
  ∃ a cap, v = .slice a xs.length cap ∧ (xs.length ≤ 9223372036854775807 ∧ xs.length ≤ cap) ∧ ∀ (i : Nat) (h : i < xs.length), ∃ b o cs, a = some ⟨b, o, none⟩ ∧ p b ∧ cs.length = m ∧ (∀ j c, cs[j]? = some c → w.cell? ⟨b, o + i * m + j, none⟩ = some c) ∧ C w cs xs[i] p := by
 obtain ⟨a, cap, hv, hl, h⟩ := h
 refine ⟨a, cap, hv, hl, fun i hi => ?_⟩
 obtain ⟨b, o, cs, ha, hp, hb, hn, hc, hC'⟩ := h i xs[i] (by simp [hi])
 exact ⟨b, o, cs, ha, hp, hn, hc, hC'⟩
theorem SRep.imp {D : CRep α} (h : SRep m C w v xs p) (hi : ∀ {cs : List Value} {x : α} {p : Blk}, C w cs x p → D w cs x p) : SRep m D w v xs p := by
 obtain ⟨a, cap, hv, hl, h⟩ := h
 refine ⟨a, cap, hv, hl, fun i x hx => ?_⟩
 obtain ⟨b, o, cs, ha, hp, hb, hn, hc, hC'⟩ := h i x hx
 exact ⟨b, o, cs, ha, hp, hb, hn, hc, hi hC'⟩
theorem SRep.take {a : Option Addr} {n c : Nat} (h : SRep m C w (.slice a n c) xs p) (k : Nat) (hk : k ≤ n) : SRep m C w (.slice a k c) (xs.take k) p := by
 obtain ⟨a', cap, hv, hl, h⟩ := h
 cases hv
 refine ⟨a, c, by rw [List.length_take, Nat.min_eq_left hk], by rw [List.length_take]; omega, fun i x hx => h i x ?_⟩
 rw [List.getElem?_take] at hx
 split at hx
 ·exact hx
 ·cases hx
theorem SRep.room {a : Option Addr} {n c : Nat} (h : SRep m C w (.slice a n c) xs p) : xs.length ≤ c := by
 obtain ⟨a', cap, hv, hl, h⟩ := h
 cases hv
 exact hl.2
theorem SRep.nil (w : World) (a : Option Addr) (cap : Nat) (p : Blk) : SRep m C w (.slice a 0 cap) [] p := ⟨a, cap, rfl, by simp, fun i x h => by simp at h⟩
theorem SOwn.rep (hC : Good m C) (h : SOwn m C w v xs p) : SRep m C w v xs p := by
 obtain ⟨a, cap, hv, hl, h⟩ := h
 refine ⟨a, cap, hv, hl, fun i x hx => ?_⟩
 rcases h with h | ⟨b, o, q, ha, hp, hb, _, _, hqp, _, h⟩
 ·subst h; simp at hx
 ·obtain ⟨cs, hn, hc, hC'⟩ := h i x hx
  exact ⟨b, o, cs, ha, hp, hb, hn, hc, hC.mono hC' (hqp i)⟩
theorem SOwn.same (hC : Good m C) (h : SOwn m C w v xs p) (hs : Same p w w') : SOwn m C w' v xs p := by
 obtain ⟨a, cap, hv, hl, h⟩ := h
 refine ⟨a, cap, hv, hl, ?_⟩
 rcases h with h | ⟨b, o, q, ha, hp, hb, hf, h1, h2, h3, h⟩
 ·exact .inl h
 ·refine .inr ⟨b, o, q, ha, hp, ?_, fun j => (hs.frozen hp).trans (hf j), h1, h2, h3, fun i x hx => ?_⟩
  ·have e := hs b hp
   rw [Array.getElem?_eq_getElem hb] at e
   exact lt_of_at e
  ·obtain ⟨cs, hn, hc, hC'⟩ := h i x hx
   exact ⟨cs, hn, fun j c hj => (hs.cell hp).trans (hc j c hj), hC.same hC' (hs.mono (h2 i))⟩
theorem SOwn.mono (h : SOwn m C w v xs p) (hs : ∀ k, p k → q k) : SOwn m C w v xs q := by
 obtain ⟨a, cap, hv, hl, h⟩ := h
 refine ⟨a, cap, hv, hl, ?_⟩
 rcases h with h | ⟨b, o, r, ha, hp, hb, hf, h1, h2, h3, h⟩
 ·exact .inl h
 ·exact .inr ⟨b, o, r, ha, hs b hp, hb, hf, h1, fun i k hk => hs k (h2 i k hk), h3, h⟩
theorem SOwn.bound (hC : Good m C) (h : SOwn m C w v xs p) : SOwn m C w v xs (fun k => p k ∧ k < w.heap.size) := by
 obtain ⟨a, cap, hv, hl, h⟩ := h
 refine ⟨a, cap, hv, hl, ?_⟩
 rcases h with h | ⟨b, o, r, ha, hp, hb, hf, h1, h2, h3, h⟩
 ·exact .inl h
 ·refine .inr ⟨b, o, fun i k => r i k ∧ k < w.heap.size, ha, ⟨hp, hb⟩, hb, hf, fun i hi => h1 i hi.1, fun i k hk => ⟨h2 i k hk.1, hk.2⟩, fun i j k hij hk hk' => h3 i j k hij hk.1 hk'.1, fun i x hx => ?_⟩
  obtain ⟨cs, hn, hc, hC'⟩ := h i x hx
  exact ⟨cs, hn, hc, hC.bound hC'⟩
theorem SOwn.later (hC : Good m C) (h : SOwn m C w v xs p) (hb : Below w.heap.size w w') : SOwn m C w' v xs p :=
 ((h.bound hC).same hC ((below_same hb).mono (fun _ hk => hk.2))).mono (fun _ hk => hk.1)
theorem SOwn.upd (hC : Good m C) (h : SOwn m C w v xs p) (hu : Upd q w w') (hd : ∀ k, p k → ¬ q k) : SOwn m C w' v xs p :=
 ((h.bound hC).same hC (hu.same.mono (fun k hk => ⟨hk.2, hd k hk.1⟩))).mono (fun _ hk => hk.1)
theorem SOwn.nil (w : World) (a : Option Addr) (cap : Nat) (p : Blk) : SOwn m C w (.slice a 0 cap) [] p := ⟨a, cap, rfl, by simp, .inl rfl⟩
theorem SOwn.elt (hC : Good m C) (h : SOwn m C w v xs p) : ∃ a cap, v = .slice a xs.length cap ∧ (xs.length ≤ 9223372036854775807 ∧ xs.length ≤ cap) ∧ ∀ (i : Nat) (hi : i < xs.length),
  ∃ b o cs, ∃ r : Blk, a = some ⟨b, o, none⟩ ∧ p b ∧ b < w.heap.size ∧ (∀ j, w.frozen? ⟨b, j, none⟩ = false) ∧ ¬ r b ∧ (∀ k, r k → p k ∧ k < w.heap.size) ∧ cs.length = m ∧ (∀ j c, cs[j]? = some c → w.cell? ⟨b, o + i * m + j, none⟩ = some c) ∧ C w cs xs[i] r ∧
   ∀ (w' : World) (cs' : List Value) (x' : α) (r' : Blk), Upd (fun k => k = b ∨ r k) w w' → (∀ j, w'.frozen? ⟨b, j, none⟩ = false) → (∀ j, (j < o + i * m ∨ o + i * m + m ≤ j) → w'.cell? ⟨b, j, none⟩ = w.cell? ⟨b, j, none⟩) →
    (∀ j c, cs'[j]? = some c → w'.cell? ⟨b, o + i * m + j, none⟩ = some c) → C w' cs' x' r' → (∀ k, r' k → p k ∧ (r k ∨ w.heap.size ≤ k)) → SOwn m C w' v (xs.set i x') p := by
 obtain ⟨a, cap, hv, hl, h⟩ := h.bound hC
 refine ⟨a, cap, hv, hl, fun i hi => ?_⟩
 rcases h with h | ⟨b, o, q, ha, hp, hb, hf, h1, h2, h3, h⟩
 ·subst h; simp at hi
 ·obtain ⟨cs, hn, hc, hC'⟩ := h i xs[i] (by simp [hi])
  refine ⟨b, o, cs, q i, ha, hp.1, hb, hf, h1 i, h2 i, hn, hc, hC', fun w' cs' x' r' hu hf' hfar hc' hCn hr' => ?_⟩
  refine ⟨a, cap, by simp [hv], by simpa using hl, .inr ⟨b, o, fun j k => if j = i then r' k else q j k, ha, hp.1, Nat.lt_of_lt_of_le hb hu.size, hf', ?_, ?_, ?_, fun j y hy => ?_⟩⟩
  ·intro j hj
   split at hj
   ·rcases (hr' b hj).2 with h | h
    ·exact h1 i h
    ·omega
   ·exact h1 j hj
  ·intro j k hk
   split at hk
   ·exact (hr' k hk).1
   ·exact (h2 j k hk).1
  ·intro j j' k hjj hk hk'
   split at hk <;> split at hk'
   ·omega
   ·rcases (hr' k hk).2 with h | h
    ·exact h3 i j' k (by omega) h hk'
    ·have := (h2 j' k hk').2; omega
   ·rcases (hr' k hk').2 with h | h
    ·exact h3 j i k (by omega) hk h
    ·have := (h2 j k hk).2; omega
   ·exact h3 j j' k hjj hk hk'
  ·rw [List.getElem?_set] at hy
   by_cases e : i = j
   ·subst e
    rw [if_pos rfl, if_pos hi] at hy
    simp at hy; subst hy
    exact ⟨cs', hC.len hCn, hc', by simpa using hCn⟩
   ·rw [if_neg e] at hy
    obtain ⟨ds, hdn, hdc, hdC⟩ := h j y hy
    refine ⟨ds, hdn, fun t c ht => ?_, ?_⟩
    ·have htm : t < m := by
      have := (List.getElem?_eq_some_iff.1 ht).1
      omega
     rw [hfar _ ?_]
     ·exact hdc t c ht
     ·rcases Nat.lt_or_ge j i with hji | hji
      ·left
       have : (j + 1) * m ≤ i * m := Nat.mul_le_mul_right _ hji
       rw [Nat.add_mul] at this; omega
      ·right
       have : (i + 1) * m ≤ j * m := Nat.mul_le_mul_right _ (by omega)
       rw [Nat.add_mul] at this; omega
    ·simp only [show ¬ j = i from fun h => e h.symm, if_false]
     refine hC.same hdC (hu.same.mono (fun k hk => ⟨(h2 j k hk).2, ?_⟩))
     rintro (rfl | hr)
     ·exact h1 j hk
     ·exact h3 i j k e hr hk
end
def Bld {α : Type} (base e m : Nat) (C : CRep α) (w : World) (v : Value) (xs : List α) : Prop :=
 ∃ css : List (List Value), ∃ q : Nat → Blk, w.ownsRow base e m v xs.length css.flatten ∧ css.length = xs.length ∧ (∀ i k, q i k → base ≤ k ∧ k < w.heap.size) ∧ (∀ k, v.ownBlock = some k → ∀ i, ¬ q i k) ∧
  (∀ i j k, i ≠ j → q i k → ¬ q j k) ∧ ∀ i x, xs[i]? = some x → ∃ cs, css[i]? = some cs ∧ cs.length = m ∧ C w cs x (q i)
section
variable {α : Type} {base e m : Nat} {C : CRep α} {w w' : World} {v v' : Value} {xs : List α} {p : Blk}
theorem Bld.nil (w : World) (base e m : Nat) (C : CRep α) : Bld base e m C w (.slice none 0 0) [] :=
 ⟨[], fun _ _ => False, World.ownsRow_nil w base e m, rfl, fun _ _ h => h.elim, fun _ _ _ h => h, fun _ _ _ _ h => h.elim, fun i x h => by simp at h⟩
def BldR {α : Type} (base m : Nat) (C : CRep α) (w : World) (v : Value) (xs : List α) (css : List (List Value)) (q : Nat → Blk) : Prop :=
 css.length = xs.length ∧ (∀ i k, q i k → base ≤ k ∧ k < w.heap.size) ∧ (∀ k, v.ownBlock = some k → ∀ i, ¬ q i k) ∧ (∀ i j k, i ≠ j → q i k → ¬ q j k) ∧ ∀ i x, xs[i]? = some x → ∃ cs, css[i]? = some cs ∧ cs.length = m ∧ C w cs x (q i)
theorem Bld.opn (h : Bld base e m C w v xs) : ∃ css q, w.ownsRow base e m v xs.length (List.flatten css) ∧ BldR base m C w v xs css q := h
theorem Bld.len (h : Bld base e m C w v xs) : ∃ a cap, v = .slice a xs.length cap := by
 obtain ⟨css, q, ho, _⟩ := h
 rcases ho.2 with ⟨rfl, h0⟩ | ⟨g, cap, cur, rfl, _⟩
 ·exact ⟨none, 0, by rw [h0]⟩
 ·exact ⟨_, _, rfl⟩
theorem Bld.more (hC : Good m C) {w0 wa w1 : World} {css cns : List (List Value)} {q r : Nat → Blk} {ys : List α} (ho : w0.ownsRow base e m v xs.length (List.flatten css)) (hr : BldR base m C w0 v xs css q) (hb : Below w0.heap.size w0 wa)
  (hl : cns.length = ys.length) (hy : ∀ i y, ys[i]? = some y → ∃ cs, cns[i]? = some cs ∧ cs.length = m ∧ C wa cs y (r i)) (hr1 : ∀ i k, r i k → base ≤ k ∧ k < wa.heap.size) (hr2 : ∀ i j k, i ≠ j → r i k → ¬ r j k)
  (hd1 : ∀ i j k, q i k → ¬ r j k) (hd2 : ∀ k, v.ownBlock = some k → ∀ j, ¬ r j k)
  (ho' : w1.ownsRow base e m v' (xs.length + ys.length) (List.flatten css ++ List.flatten cns)) (hg : wa.grownBy w1 v.ownBlock) (hf : v'.ownBlock = v.ownBlock ∨ v'.ownBlock = some wa.heap.size) : Bld base e m C w1 v' (xs ++ ys) := by
 obtain ⟨h1, h2, h3, h4, h5⟩ := hr
 have hold : ∀ k, v.ownBlock = some k → k < w0.heap.size := fun k hk => (ho.lt k hk).2
 have hz := hb.size
 have hz1 := hg.size
 have hsame : ∀ k, k < wa.heap.size → v.ownBlock ≠ some k → w1.heap[k]? = wa.heap[k]? := fun k hk hn => hg.block k hk (fun e => hn e.symm)
 refine ⟨css ++ cns, fun i k => if i < xs.length then q i k else r (i - xs.length) k, by rw [List.length_append, List.flatten_append]; exact ho', by rw [List.length_append, List.length_append, h1, hl], ?_, ?_, ?_, ?_⟩
 ·intro i k hk
  split at hk
  ·have := h2 i k hk; exact ⟨this.1, by omega⟩
  ·have := hr1 _ k hk; exact ⟨this.1, by omega⟩
 ·intro k hk i hi
  rcases hf with hf | hf
  ·rw [hf] at hk
   split at hi
   ·exact h3 k hk i hi
   ·exact hd2 k hk _ hi
  ·rw [hf] at hk; simp at hk; subst hk
   split at hi
   ·have := h2 i _ hi; omega
   ·have := hr1 _ _ hi; omega
 ·intro i j k hij hi hj
  split at hi <;> split at hj
  ·exact h4 i j k hij hi hj
  ·exact hd1 _ _ k hi hj
  ·exact hd1 _ _ k hj hi
  ·exact hr2 _ _ k (by omega) hi hj
 ·intro i y hy'
  by_cases hi : i < xs.length
  ·rw [List.getElem?_append_left hi] at hy'
   obtain ⟨ds, d1, d2, d3⟩ := h5 i y hy'
   refine ⟨ds, by rw [List.getElem?_append_left (by omega)]; exact d1, d2, ?_⟩
   simp only [hi, if_true]
   refine hC.same d3 (fun k hk => ?_)
   have hk2 := (h2 i k hk).2
   rw [hsame k (by omega) (fun e => h3 k e i hk)]
   exact hb.block k hk2
  ·rw [List.getElem?_append_right (by omega)] at hy'
   obtain ⟨ds, d1, d2, d3⟩ := hy _ y hy'
   refine ⟨ds, by rw [List.getElem?_append_right (by omega), h1]; exact d1, d2, ?_⟩
   simp only [hi, if_false]
   refine hC.same d3 (fun k hk => hsame k (hr1 _ k hk).2 (fun e => hd2 k e _ hk))
theorem Bld.snoc (hC : Good m C) {w0 wa w1 : World} {css : List (List Value)} {q : Nat → Blk} {cs : List Value} {x : α} {r : Blk} (ho : w0.ownsRow base e m v xs.length (List.flatten css)) (hr : BldR base m C w0 v xs css q) (hb : Below w0.heap.size w0 wa)
  (hx : C wa cs x r) (hrk : ∀ k, r k → w0.heap.size ≤ k ∧ k < wa.heap.size) (hB : base ≤ w0.heap.size) (ho' : w1.ownsRow base e m v' (xs.length + 1) (List.flatten css ++ cs)) (hg : wa.grownBy w1 v.ownBlock) (hf : v'.ownBlock = v.ownBlock ∨ v'.ownBlock = some wa.heap.size) : Bld base e m C w1 v' (xs ++ [x]) :=
 Bld.more hC (cns := [cs]) (ys := [x]) (r := fun i k => i = 0 ∧ r k) ho hr hb rfl (fun i y hy => by
  match i, hy with
  | 0, hy => simp at hy; subst hy; exact ⟨cs, rfl, hC.len hx, hC.mono hx (fun k hk => ⟨rfl, hk⟩)⟩
  | i + 1, hy => simp at hy) (fun i k hk => ⟨by have := (hrk k hk.2).1; omega, (hrk k hk.2).2⟩) (fun i j k hij hi hj => hij (hi.1.trans hj.1.symm))
  (fun i j k hi hj => by have := (hr.2.1 i k hi).2; have := (hrk k hj.2).1; omega) (fun k hk j hj => by have := (ho.lt k hk).2; have := (hrk k hj.2).1; omega) (by simpa using ho') hg hf
theorem flatten_at {β : Type} : ∀ (css : List (List β)) (m : Nat) (_ : ∀ cs, cs ∈ css → cs.length = m) (i : Nat) (cs : List β), css[i]? = some cs → ∀ j c, cs[j]? = some c → css.flatten[i * m + j]? = some c
 | [], _, _, i, cs, h, _, _, _ => by simp at h
 | d :: css, m, hm, 0, cs, h, j, c, hc => by
  simp at h; subst h
  have := (List.getElem?_eq_some_iff.1 hc).1
  simp only [List.flatten_cons, Nat.zero_mul, Nat.zero_add]
  rw [List.getElem?_append_left this]; exact hc
 | d :: css, m, hm, i + 1, cs, h, j, c, hc => by
  have hd : d.length = m := hm d (by simp)
  have ih := flatten_at css m (fun cs h => hm cs (by simp [h])) i cs (by simpa using h) j c hc
  simp only [List.flatten_cons]
  rw [List.getElem?_append_right (by rw [hd, Nat.add_mul]; omega), hd, show (i + 1) * m + j - m = i * m + j from by rw [Nat.add_mul]; omega]
  exact ih
theorem mem_len {css : List (List Value)} {q : Nat → Blk} (hr : BldR base m C w v xs css q) : ∀ cs, cs ∈ css → cs.length = m := by
 intro cs hcs
 obtain ⟨i, hi, rfl⟩ := List.mem_iff_getElem.1 hcs
 obtain ⟨h1, _, _, _, h5⟩ := hr
 obtain ⟨ds, d1, d2, _⟩ := h5 i (xs[i]'(by omega)) (by simp)
 rw [List.getElem?_eq_getElem hi] at d1
 rw [Option.some.inj d1]; exact d2
theorem Bld.own (h : Bld base e m C w v xs) (hlen : xs.length ≤ 9223372036854775807) : SOwn m C w v xs (fun k => base ≤ k ∧ k < w.heap.size) := by
 obtain ⟨css, q, ho, hr⟩ := h
 have hml := mem_len hr
 obtain ⟨h1, h2, h3, h4, h5⟩ := hr
 rcases ho.2 with ⟨rfl, h0⟩ | ⟨g, cap, cur, rfl, hbg, hg, hnc, _, hsz, htk⟩
 ·have : xs = [] := List.eq_nil_of_length_eq_zero h0
  subst this
  exact SOwn.nil _ _ _ _
 ·refine ⟨_, _, rfl, ⟨hlen, by omega⟩, ?_⟩
  by_cases hx : xs = []
  ·exact .inl hx
  ·refine .inr ⟨g, 0, q, rfl, ⟨hbg, lt_of_at hg⟩, lt_of_at hg, fun j => frozen_of_row w g j cur e hg, fun i => h3 g rfl i, fun i k hk => h2 i k hk, h4, fun i x hx => ?_⟩
   obtain ⟨cs, c1, c2, c3⟩ := h5 i x hx
   refine ⟨cs, c2, fun j c hc => ?_, c3⟩
   rw [cell_of_row w g _ cur e (0, 0) hg]
   have hfl := flatten_at css m hml i cs c1 j c hc
   rw [← htk, List.getElem?_take] at hfl
   split at hfl
   ·simpa using hfl
   ·simp at hfl
end
section
variable {P : Program} (w : World)
end
structure Leaf {α : Type} (C : CRep α) : Prop where
 all : ∀ {w : World} {cs : List Value} {x : α} {p : Blk}, C w cs x p → ∀ (w' : World) (q : Blk), C w' cs x q
section
variable {α : Type} {m : Nat} {C : CRep α} {w : World} {v : Value} {xs : List α} {p : Blk}
theorem add_at (b o j : Nat) : (⟨b, o, none⟩ : Addr).add j = ⟨b, o + j, none⟩ := by unfold Addr.add; split <;> simp_all
theorem choose_list {β : Type} (f : Nat → β → Prop) : ∀ n, (∀ i, i < n → ∃ y, f i y) → ∃ l : List β, l.length = n ∧ ∀ i y, l[i]? = some y → f i y
 | 0, _ => ⟨[], rfl, fun i y h => by simp at h⟩
 | n + 1, h => by
  obtain ⟨l, hl, hf⟩ := choose_list f n (fun i hi => h i (by omega))
  obtain ⟨y, hy⟩ := h n (by omega)
  refine ⟨l ++ [y], by simp [hl], fun i z hz => ?_⟩
  rcases Nat.lt_or_ge i l.length with hi | hi
  ·rw [List.getElem?_append_left hi] at hz; exact hf i z hz
  ·rw [List.getElem?_append_right hi] at hz
   have e : i - l.length = 0 := by
    rcases Nat.eq_zero_or_pos (i - l.length) with h | h
    ·exact h
    ·rw [show i - l.length = (i - l.length - 1) + 1 from by omega] at hz; simp at hz
   rw [e] at hz; simp at hz; subst hz
   obtain rfl : i = n := by omega
   exact hy
theorem flatten_get {β : Type} : ∀ (css : List (List β)) (m : Nat) (_ : ∀ cs, cs ∈ css → cs.length = m) (t : Nat) (c : β), css.flatten[t]? = some c → ∃ i cs j, css[i]? = some cs ∧ cs[j]? = some c ∧ t = i * m + j
 | [], _, _, t, c, h => by simp at h
 | d :: css, m, hm, t, c, h => by
  have hd : d.length = m := hm d (by simp)
  simp only [List.flatten_cons] at h
  rcases Nat.lt_or_ge t d.length with ht | ht
  ·rw [List.getElem?_append_left ht] at h
   exact ⟨0, d, t, rfl, h, by simp⟩
  ·rw [List.getElem?_append_right ht] at h
   obtain ⟨i, cs, j, h1, h2, h3⟩ := flatten_get css m (fun cs h => hm cs (by simp [h])) _ c h
   exact ⟨i + 1, cs, j, by simpa using h1, h2, by rw [Nat.add_mul]; omega⟩
theorem flatten_len {β : Type} : ∀ (css : List (List β)) (m : Nat) (_ : ∀ cs, cs ∈ css → cs.length = m), css.flatten.length = css.length * m
 | [], _, _ => by simp
 | d :: css, m, hm => by
  simp only [List.flatten_cons, List.length_append, List.length_cons, Nat.add_mul]
  rw [flatten_len css m (fun cs h => hm cs (by simp [h])), hm d (by simp)]; omega
theorem SRep.flat (hC : Good m C) (h : SRep m C w v xs p) : ∃ a cap, v = .slice a xs.length cap ∧ ∃ cns : List (List Value), cns.length = xs.length ∧ (∀ (i : Nat) (y : α), xs[i]? = some y → ∃ cs, cns[i]? = some cs ∧ cs.length = m ∧ C w cs y p) ∧
  (List.flatten cns).length = xs.length * m ∧ (∀ u, u ∈ List.flatten cns → u.oneCell' = true) ∧ (xs ≠ [] → ∃ b o, a = some ⟨b, o, none⟩ ∧ p b ∧ b < w.heap.size) ∧ ∀ ad, a = some ad → ∀ j u, (List.flatten cns)[j]? = some u → w.cell? (ad.add j) = some u := by
 obtain ⟨a, cap, hv, hl, h⟩ := h
 obtain ⟨cns, hn, hf⟩ := choose_list (fun i (cs : List Value) => ∀ x, xs[i]? = some x → cs.length = m ∧ C w cs x p ∧ ∀ ad, a = some ad → ∀ j c, cs[j]? = some c → w.cell? (ad.add (i * m + j)) = some c) xs.length (fun i hi => by
  obtain ⟨b, o, cs, ha, hp, hb, hcn, hc, hC'⟩ := h i xs[i] (by simp [hi])
  refine ⟨cs, fun x hx => ?_⟩
  rw [List.getElem?_eq_getElem hi] at hx
  cases hx
  refine ⟨hcn, hC', fun ad had j c hj => ?_⟩
  rw [ha] at had; cases had
  rw [add_at, ← Nat.add_assoc]; exact hc j c hj)
 have hfi : ∀ i (hi : i < cns.length), (cns[i]).length = m ∧ C w cns[i] (xs[i]'(by omega)) p ∧ ∀ ad, a = some ad → ∀ j c, (cns[i])[j]? = some c → w.cell? (ad.add (i * m + j)) = some c := fun i hi => hf i cns[i] (by simp [hi]) _ (by simp)
 have hml : ∀ cs, cs ∈ cns → cs.length = m := by
  intro cs hcs
  obtain ⟨i, hi, rfl⟩ := List.mem_iff_getElem.1 hcs
  exact (hfi i hi).1
 refine ⟨a, cap, hv, cns, hn, fun i y hy => ?_, by rw [flatten_len cns m hml, hn], fun u hu => ?_, fun hx => ?_, fun ad had j u hu => ?_⟩
 ·have hi : i < xs.length := (List.getElem?_eq_some_iff.1 hy).1
  have := hf i (cns[i]'(by omega)) (by simp) y hy
  exact ⟨_, by simp, this.1, this.2.1⟩
 ·obtain ⟨cs, hcs, hu⟩ := List.mem_flatten.1 hu
  obtain ⟨i, hi, rfl⟩ := List.mem_iff_getElem.1 hcs
  exact hC.one (hfi i hi).2.1 u hu
 ·match xs, hx, h with
  | x :: xs, _, h =>
   obtain ⟨b, o, cs, ha, hp, hb, _⟩ := h 0 x rfl
   exact ⟨b, o, ha, hp, hb⟩
 ·obtain ⟨i, cs, t, h1, h2, h3⟩ := flatten_get cns m hml j u hu
  obtain ⟨hi, rfl⟩ := List.getElem?_eq_some_iff.1 h1
  rw [h3]
  exact (hfi i hi).2.2 ad had t u h2
end
theorem upd_setCells (b : Nat) : ∀ (cs : List Value) (o : Nat) {p : Blk} {a w : World}, Upd p a w → (p b ∨ a.heap.size ≤ b) → Upd p a (w.setCells b o cs)
 | [], _, _, _, _, h, _ => h
 | c :: cs, o, _, _, _, h, hb => upd_setCells b cs (o + 1) (h.setCell (x := ⟨b, o, none⟩) hb c) hb
section
variable {α : Type} {m : Nat} {C : CRep α} {w : World} {xs : List α} {p : Blk} {b o n cap : Nat}
theorem SOwn.there (hC : Good m C) (h : SOwn m C w (.slice (some ⟨b, o, none⟩) n cap) xs p) : ∀ (i : Nat) (hi : i < xs.length), p b ∧ b < w.heap.size ∧ (∀ j, w.frozen? ⟨b, j, none⟩ = false) ∧ ∃ cs, cs.length = m ∧ (∀ j c, cs[j]? = some c → w.cell? ⟨b, o + i * m + j, none⟩ = some c) ∧ ∃ r, C w cs xs[i] r := by
 obtain ⟨a, cap', hv, hl, hat⟩ := h.elt hC
 intro i hi
 obtain ⟨b', o', cs, r, ha, hp, hlt, hf, _, _, hn, hc, hx, _⟩ := hat i hi
 cases hv; cases ha
 exact ⟨hp, hlt, hf, cs, hn, hc, r, hx⟩
theorem SOwn.put (hC : Good m C) {W : World} (h : SOwn m C W (.slice (some ⟨b, o, none⟩) n cap) xs p) (hb : Below W.heap.size W w) (i : Nat) (hi : i < xs.length) {cs : List Value} {x : α} {r : Blk} (hx : C w cs x r) (hr : ∀ k, r k → W.heap.size ≤ k ∧ p k) :
  SOwn m C (w.setCells b (o + i * m) cs) (.slice (some ⟨b, o, none⟩) n cap) (xs.set i x) p := by
 obtain ⟨a, cap', hv, hl, hat⟩ := h.elt hC
 obtain ⟨b', o', ds, r0, ha, hp, hlt, hf, hnb, hr0, hdn, hdc, _, hk⟩ := hat i hi
 cases hv; cases ha
 have hbw : ∀ j, w.cell? ⟨b, j, none⟩ = W.cell? ⟨b, j, none⟩ := fun j => (bcell hb).1 b j hlt
 have hcm := hC.len hx
 have hsome : ∀ j, j < cs.length → (w.cell? ⟨b, o + i * m + j, none⟩).isSome = true := fun j hj => by
  rw [hbw, hdc j (ds[j]'(by omega)) (by simp)]; rfl
 refine hk _ cs x r (upd_setCells b cs _ (Upd.of_below hb) (.inl (.inl rfl))) (fun j => ?_) (fun j hj => ?_) (fun j c hj => ?_) ?_ (fun k hk => ⟨(hr k hk).2, .inr (hr k hk).1⟩)
 ·rw [World.frozen?_setCells, (bcell hb).2 b j hlt]; exact hf j
 ·rw [World.cell?_setCells_out b cs _ w _ (fun _ _ => by simp only; omega)]; exact hbw j
 ·obtain ⟨hj1, rfl⟩ := List.getElem?_eq_some_iff.1 hj
  exact World.cell?_setCells_in b cs _ w hsome j hj1
 ·exact hC.mono (hC.same (hC.bound hx) (fun t ht => (upd_setCells b cs _ (Upd.refl (fun k => k = b) w) (.inl rfl)).block t ht.2 (fun (e : t = b) => by have := (hr t ht.1).1; omega))) (fun t ht => ht.1)
end
structure Prog (b lo hi : Nat) (q : Blk) (W w : World) : Prop where
 upd : Upd (fun k => k = b ∨ q k) W w
 frozen : ∀ j, w.frozen? ⟨b, j, none⟩ = W.frozen? ⟨b, j, none⟩
 far : ∀ j, (j < lo ∨ hi ≤ j) → w.cell? ⟨b, j, none⟩ = W.cell? ⟨b, j, none⟩
theorem Prog.refl (b lo hi : Nat) (q : Blk) (W : World) : Prog b lo hi q W W := ⟨Upd.refl _ _, fun _ => rfl, fun _ _ => rfl⟩
theorem Prog.below {b lo hi : Nat} {q : Blk} {W w w' : World} (h : Prog b lo hi q W w) (hb : Below w.heap.size w w') (hlt : b < W.heap.size) : Prog b lo hi q W w' :=
 ⟨h.upd.trans ((Upd.of_below hb)), fun j => ((bcell hb).2 b j (Nat.lt_of_lt_of_le hlt h.upd.size)).trans (h.frozen j), fun j hj => ((bcell hb).1 b j (Nat.lt_of_lt_of_le hlt h.upd.size)).trans (h.far j hj)⟩
theorem Prog.setCell {b lo hi : Nat} {q : Blk} {W w : World} (h : Prog b lo hi q W w) (j : Nat) (hj : lo ≤ j ∧ j < hi) (v : Value) : Prog b lo hi q W (w.setCell ⟨b, j, none⟩ v) :=
 ⟨h.upd.setCell (.inl (.inl rfl)) v, fun j' => (World.frozen?_setCells b [v] j w ⟨b, j', none⟩).trans (h.frozen j'),
  fun j' hj' => (World.cell?_setCells_out b [v] j w ⟨b, j', none⟩ (fun _ _ => by simp only [List.length_singleton]; omega)).trans (h.far j' hj')⟩
theorem Prog.written {b lo hi : Nat} {q q' : Blk} {W w w' : World} (h : Prog b lo hi q W w) (hu : Upd q' w w') (hlt : b < W.heap.size) (hq : ∀ k, q' k → q k) (hb : ¬ q' b) : Prog b lo hi q W w' :=
 ⟨h.upd.trans (hu.mono (fun k hk _ => .inr (hq k hk))), fun j => (hu.same.frozen ⟨Nat.lt_of_lt_of_le hlt h.upd.size, hb⟩).trans (h.frozen j), fun j hj => (hu.same.cell ⟨Nat.lt_of_lt_of_le hlt h.upd.size, hb⟩).trans (h.far j hj)⟩
theorem SOwn.prog {α : Type} {m : Nat} {C : CRep α} {W w : World} {v : Value} {xs : List α} {b lo hi : Nat} {q r : Blk} (hC : Good m C) (h : SOwn m C W v xs r) (hP : Prog b lo hi q W w) (hb : ¬ r b) (hq : ∀ k, q k → r k → False) : SOwn m C w v xs r :=
 h.upd hC hP.upd (fun k hk hn => hn.elim (fun e => hb (e ▸ hk)) (fun h => hq k h hk))
structure El {α : Type} (m : Nat) (C : CRep α) (w : World) (v : Value) (xs : List α) (p : Blk) (i b o : Nat) (r : Blk) : Prop where
 pb : p b
 lt : b < w.heap.size
 nofreeze : ∀ j, w.frozen? ⟨b, j, none⟩ = false
 nb : ¬ r b
 sub : ∀ k, r k → p k ∧ k < w.heap.size
 put : ∀ (w' : World) (cs' : List Value) (x' : α) (r' : Blk), Prog b (o + i * m) (o + i * m + m) r w w' → (∀ j c, cs'[j]? = some c → w'.cell? ⟨b, o + i * m + j, none⟩ = some c) → C w' cs' x' r' → (∀ k, r' k → p k ∧ (r k ∨ w.heap.size ≤ k)) → SOwn m C w' v (xs.set i x') p
section
variable {α : Type} (mk : α → Nat → α) (cnt : α → Nat)
end
end Go.Proofs.YtcjbjmbialienaaGreatDoor
