/- Plain words for what Go values hold in memory: no program in sight. -/
import Derived.WalkKit
import Derived.WalkSpells
import Derived.WalkLawsBesides
import Derived.Deep.RegionHeld3
import Derived.Deep.RegionLaw
import Derived.Deep.RegionWith
import Derived.Deep.DeepCutAuto
import Derived.Deep.LoopGhost
import Derived.Deep.QuietTactic
import Derived.BigQuiet
import Derived.Lib.Hide
import Derived.Handy
set_option linter.unusedSimpArgs false
set_option linter.unusedVariables false
namespace Go.Proofs.YtcjbjmbialienaaGreatDoor
open Go.RowKit
abbrev Blk := Nat → Prop
def Same (p : Blk) (w w' : World) : Prop := ∀ b, p b → w'.heap[b]? = w.heap[b]?
structure Upd (p : Blk) (w w' : World) : Prop where
 os : w'.os = w.os
 tape : w'.tape = w.tape
 output : w'.output = w.output
 size : w.heap.size ≤ w'.heap.size
 block : ∀ k, k < w.heap.size → ¬ p k → w'.heap[k]? = w.heap[k]?
theorem Upd.refl (p : Blk) (w : World) : Upd p w w := ⟨rfl, rfl, rfl, Nat.le_refl _, fun _ _ _ => rfl⟩
theorem Upd.of_below {p : Blk} {a b : World} (h : Below a.heap.size a b) : Upd p a b := ⟨h.os, h.tape, h.output, h.size, fun k hk _ => h.block k hk⟩
theorem lt_of_cell {w : World} {b o : Nat} {v : Value} (h : w.cell? ⟨b, o, none⟩ = some v) : b < w.heap.size := World.block_lt_of_cell? _ _ h
theorem lt_of_at {w : World} {b : Nat} {o : Obj} (h : w.heap[b]? = some o) : b < w.heap.size := (Array.getElem?_eq_some_iff.1 h).1
theorem bcell {W w1 : World} (hb : Below W.heap.size W w1) : (∀ b o, b < W.heap.size → w1.cell? ⟨b, o, none⟩ = W.cell? ⟨b, o, none⟩) ∧ (∀ b o, b < W.heap.size → w1.frozen? ⟨b, o, none⟩ = W.frozen? ⟨b, o, none⟩) :=
 ⟨fun b o h => hb.cell (p := ⟨b, o, none⟩) h, fun b o h => hb.frozen (p := ⟨b, o, none⟩) h⟩
abbrev CRep (α : Type) := World → List Value → α → Blk → Prop
structure Good {α : Type} (m : Nat) (C : CRep α) : Prop where
 len : ∀ {w : World} {cs : List Value} {x : α} {p : Blk}, C w cs x p → cs.length = m
 one : ∀ {w : World} {cs : List Value} {x : α} {p : Blk}, C w cs x p → ∀ u, u ∈ cs → u.oneCell' = true
 same : ∀ {w w' : World} {cs : List Value} {x : α} {p : Blk}, C w cs x p → Same p w w' → C w' cs x p
 mono : ∀ {w : World} {cs : List Value} {x : α} {p q : Blk}, C w cs x p → (∀ k, p k → q k) → C w cs x q
 bound : ∀ {w : World} {cs : List Value} {x : α} {p : Blk}, C w cs x p → C w cs x (fun k => p k ∧ k < w.heap.size)
def SRep {α : Type} (m : Nat) (C : CRep α) (w : World) (v : Value) (xs : List α) (p : Blk) : Prop :=
 ∃ a cap, v = .slice a xs.length cap ∧ (xs.length ≤ 9223372036854775807 ∧ xs.length ≤ cap) ∧ ∀ i x, xs[i]? = some x →
  ∃ b o cs, a = some ⟨b, o, none⟩ ∧ p b ∧ b < w.heap.size ∧ cs.length = m ∧ (∀ j c, cs[j]? = some c → w.cell? ⟨b, o + i * m + j, none⟩ = some c) ∧ C w cs x p
def SOwn {α : Type} (m : Nat) (C : CRep α) (w : World) (v : Value) (xs : List α) (p : Blk) : Prop :=
 ∃ a cap, v = .slice a xs.length cap ∧ (xs.length ≤ 9223372036854775807 ∧ xs.length ≤ cap) ∧ (xs = [] ∨ ∃ b o, ∃ q : Nat → Blk, a = some ⟨b, o, none⟩ ∧ p b ∧ b < w.heap.size ∧ (∀ j, w.frozen? ⟨b, j, none⟩ = false) ∧
  (∀ i, ¬ q i b) ∧ (∀ i k, q i k → p k) ∧ (∀ i j k, i ≠ j → q i k → ¬ q j k) ∧ ∀ i x, xs[i]? = some x →
   ∃ cs, cs.length = m ∧ (∀ j c, cs[j]? = some c → w.cell? ⟨b, o + i * m + j, none⟩ = some c) ∧ C w cs x (q i))
section
variable {α : Type} {m : Nat} {C : CRep α} {w w' : World} {v : Value} {xs : List α} {p q : Blk}
theorem SRep.nil (w : World) (a : Option Addr) (cap : Nat) (p : Blk) : SRep m C w (.slice a 0 cap) [] p := ⟨a, cap, rfl, by simp, fun i x h => by simp at h⟩
end
section
variable {α : Type} {base e m : Nat} {C : CRep α} {w w' : World} {v v' : Value} {xs : List α} {p : Blk}
theorem flatten_at {β : Type} : ∀ (css : List (List β)) (m : Nat) (_ : ∀ cs, cs ∈ css → cs.length = m) (i : Nat) (cs : List β), css[i]? = some cs → ∀ j c, cs[j]? = some c → css.flatten[i * m + j]? = some c
 | [], _, _, i, cs, h, _, _, _ => by simp at h
 | d :: css, m, hm, 0, cs, h, j, c, hc => by
  simp at h; subst h
  have := (List.getElem?_eq_some_iff.1 hc).1
  simp only [List.flatten_cons, Nat.zero_mul, Nat.zero_add]
  rw [List.getElem?_append_left this]; exact hc
 | d :: css, m, hm, i + 1, cs, h, j, c, hc => by
  have hd : d.length = m := hm d (by simp)
  have ih := flatten_at css m (fun cs h => hm cs (by simp [h])) i cs (by simpa using h) j c hc
  simp only [List.flatten_cons]
  rw [List.getElem?_append_right (by rw [hd, Nat.add_mul]; omega), hd, show (i + 1) * m + j - m = i * m + j from by rw [Nat.add_mul]; omega]
  exact ih
end
section
variable {P : Program} (w : World)
end
structure Leaf {α : Type} (C : CRep α) : Prop where
 all : ∀ {w : World} {cs : List Value} {x : α} {p : Blk}, C w cs x p → ∀ (w' : World) (q : Blk), C w' cs x q
section
variable {α : Type} {m : Nat} {C : CRep α} {w : World} {v : Value} {xs : List α} {p : Blk}
theorem add_at (b o j : Nat) : (⟨b, o, none⟩ : Addr).add j = ⟨b, o + j, none⟩ := by unfold Addr.add; split <;> simp_all
theorem choose_list {β : Type} (f : Nat → β → Prop) : ∀ n, (∀ i, i < n → ∃ y, f i y) → ∃ l : List β, l.length = n ∧ ∀ i y, l[i]? = some y → f i y
 | 0, _ => ⟨[], rfl, fun i y h => by simp at h⟩
 | n + 1, h => by
  obtain ⟨l, hl, hf⟩ := choose_list f n (fun i hi => h i (by omega))
  obtain ⟨y, hy⟩ := h n (by omega)
  refine ⟨l ++ [y], by simp [hl], fun i z hz => ?_⟩
  rcases Nat.lt_or_ge i l.length with hi | hi
  ·rw [List.getElem?_append_left hi] at hz; exact hf i z hz
  ·rw [List.getElem?_append_right hi] at hz
   have e : i - l.length = 0 := by
    rcases Nat.eq_zero_or_pos (i - l.length) with h | h
    ·exact h
    ·rw [show i - l.length = (i - l.length - 1) + 1 from by omega] at hz; simp at hz
   rw [e] at hz; simp at hz; subst hz
   obtain rfl : i = n := by omega
   exact hy
theorem flatten_len {β : Type} : ∀ (css : List (List β)) (m : Nat) (_ : ∀ cs, cs ∈ css → cs.length = m), css.flatten.length = css.length * m
 | [], _, _ => by simp
 | d :: css, m, hm => by
  simp only [List.flatten_cons, List.length_append, List.length_cons, Nat.add_mul]
  rw [flatten_len css m (fun cs h => hm cs (by simp [h])), hm d (by simp)]; omega
end
section
variable {α : Type} {m : Nat} {C : CRep α} {w : World} {xs : List α} {p : Blk} {b o n cap : Nat}
end
structure Prog (b lo hi : Nat) (q : Blk) (W w : World) : Prop where
 upd : Upd (fun k => k = b ∨ q k) W w
 frozen : ∀ j, w.frozen? ⟨b, j, none⟩ = W.frozen? ⟨b, j, none⟩
 far : ∀ j, (j < lo ∨ hi ≤ j) → w.cell? ⟨b, j, none⟩ = W.cell? ⟨b, j, none⟩
structure El {α : Type} (m : Nat) (C : CRep α) (w : World) (v : Value) (xs : List α) (p : Blk) (i b o : Nat) (r : Blk) : Prop where
 pb : p b
 lt : b < w.heap.size
 nofreeze : ∀ j, w.frozen? ⟨b, j, none⟩ = false
 nb : ¬ r b
 sub : ∀ k, r k → p k ∧ k < w.heap.size
 put : ∀ (w' : World) (cs' : List Value) (x' : α) (r' : Blk), Prog b (o + i * m) (o + i * m + m) r w w' → (∀ j c, cs'[j]? = some c → w'.cell? ⟨b, o + i * m + j, none⟩ = some c) → C w' cs' x' r' → (∀ k, r' k → p k ∧ (r k ∨ w.heap.size ≤ k)) → SOwn m C w' v (xs.set i x') p
section
variable {α : Type} (mk : α → Nat → α) (cnt : α → Nat)
end
end Go.Proofs.YtcjbjmbialienaaGreatDoor
