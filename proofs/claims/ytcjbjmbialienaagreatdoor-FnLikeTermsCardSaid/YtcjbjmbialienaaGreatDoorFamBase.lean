/- What the laws' own functions over all types share. -/
import Derived.Test.YtcjbjmbialienaaGreatDoorBase
import Derived.Test.YtcjbjmbialienaaGreatDoorRows
import Derived.ProofKit
import Derived.Deep.Slices
import Derived.ChangeOld
set_option linter.unusedSimpArgs false
set_option linter.unusedVariables false
namespace Go.Proofs.YtcjbjmbialienaaGreatDoor
open Go.RowKit
section
variable {α : Type} (f : α → Nat)
end
theorem len1 {β : Type} {l : List β} (h : l.length = 1) : ∃ c0, l = [c0] := by
 match l, h with
 | [c0], _ => exact ⟨c0, rfl⟩
theorem len2 {β : Type} {l : List β} (h : l.length = 2) : ∃ c0 c1, l = [c0, c1] := by
 match l, h with
 | [c0, c1], _ => exact ⟨c0, c1, rfl⟩
theorem jon : ownKnob Tryz.prog.godebug = none := by kernel_rfl
theorem jaL : laidOutB Tryz.prog = true := by kernel_rfl
section
variable {H : Type} {enc : TypeId × Value → H} {P : Program} {w : World} {spare : Nat → Bool} {held : Bool}
theorem jlA {fuel : Nat} {t e : TypeId} {cs : List Value} {x : DataW H × List MemPlace} {α : Type} {m : Nat} {C : CRep α} (hm0 : 0 < m) (ht : P.underlying t = some (.slice e)) (hm : P.cellsOf e = m)
  (hel : ∀ (n : Nat) (cs : List Value) (y : DataW H × List MemPlace), DataW.trod enc P w 0 spare held n e cs = some y → cs.length = m → ∃ d : α, C w cs d (fun _ => True))
  (h : DataW.trod enc P w 0 spare held fuel t cs = some x) : ∃ v xs, cs = [v] ∧ SRep m C w v xs (fun _ => True) := by
 rcases DataW.trod_slice ht h with ⟨rfl, _⟩ | ⟨a, len, cap, elems, rest, n, _, rfl, _, _, hl, hcm, hlen, he, _⟩
 ·exact ⟨_, [], rfl, SRep.nil _ _ _ _⟩
 ·rw [hm] at he
  obtain ⟨xs, hxl, hx⟩ := choose_list (fun i (d : α) => ∃ cs', w.cells? 0 (a.add (i * m)) m = some cs' ∧ C w cs' d (fun _ => True)) len (fun i hi => by
   have h1 := he i hi
   rw [List.getElem?_eq_getElem (by omega)] at h1
   obtain ⟨cs', h2, h3⟩ := Option.bind_eq_some_iff.1 h1
   obtain ⟨d, hd⟩ := hel n cs' _ h3 (World.cells?_some h2).2.1
   exact ⟨d, cs', h2, hd⟩)
  refine ⟨_, xs, rfl, some a, cap, by rw [hxl], by simp only [maxLen] at hcm; exact ⟨by omega, by omega⟩, fun i d hd => ?_⟩
  obtain ⟨cs', h1, h2⟩ := hx i d hd
  obtain ⟨_, hn, hc⟩ := World.cells?_some h1
  have hsome : ∀ j c, cs'[j]? = some c → w.cell? (a.add (i * m + j)) = some c := by
   intro j c hj
   obtain ⟨hj1, rfl⟩ := List.getElem?_eq_some_iff.1 hj
   rw [← Addr.add_add]
   exact (hc j (by omega)).trans hj
  obtain ⟨b, o, rfl⟩ : ∃ b o, a = ⟨b, o, none⟩ := by
   have hi : i < len := by have := (List.getElem?_eq_some_iff.1 hd).1; omega
   obtain ⟨cs0, k1, _⟩ := hx 0 (xs[0]'(by omega)) (by simp)
   obtain ⟨_, kn, kc⟩ := World.cells?_some k1
   have h0 := kc 0 hm0
   rw [List.getElem?_eq_getElem (by omega), Addr.add_add] at h0
   obtain ⟨b, o, sp⟩ := a
   cases sp with
   | none => exact ⟨b, o, rfl⟩
   | some sp =>
    exfalso
    simp only [World.cell?, Addr.add, Nat.zero_mul, Nat.add_zero, if_true] at h0
    split at h0
    ·simp at h0
    ·cases h0
  have hb : b < w.heap.size := by
   have h0 := hsome 0 (cs'[0]'(by omega)) (by simp)
   rw [add_at] at h0
   exact lt_of_cell h0
  exact ⟨b, o, cs', rfl, trivial, hb, hn, fun j c hj => by rw [Nat.add_assoc, ← add_at]; exact hsome j c hj, h2⟩
end
end Go.Proofs.YtcjbjmbialienaaGreatDoor
