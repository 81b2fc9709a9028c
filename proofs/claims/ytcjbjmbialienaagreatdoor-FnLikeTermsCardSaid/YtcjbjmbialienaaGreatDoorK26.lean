/- The engine, twenty-sixth part: a law of bytes, out of its model. -/
import Derived.Test.YtcjbjmbialienaaGreatDoorK25
import Derived.Test.YtcjbjmbialienaaGreatDoorFamBase
set_option linter.unusedSimpArgs false
set_option linter.unusedVariables false
namespace Go.Proofs.YtcjbjmbialienaaGreatDoor
open Go.RowKit
theorem jsW {α : Type} {m : Nat} {C : CRep α} {enc : α → List PV} {w : World} {S : Stab} {v : Value} {xs : List α} {p : Blk} (hp : ∀ b o, p b → b < w.heap.size → S b o)
  (hC : ∀ (cs : List Value) (x : α), C w cs x p → (enc x).length = cs.length ∧ ∀ (j : Nat) (c : PV), (enc x)[j]? = some c → ∃ u : Value, cs[j]? = some u ∧ Rep w S u c) (h : SRep m C w v xs p) : Rep w S v (.sl (xs.map enc)) := by
 obtain ⟨a, cap, rfl, hl, hat⟩ := h
 have key : ∃ b o, (xs.map enc ≠ [] → a = some ⟨b, o, none⟩) ∧ (∀ (i : Nat) (row : List PV), (xs.map enc)[i]? = some row → row.length = m) ∧ ∀ (i : Nat) (row : List PV), (xs.map enc)[i]? = some row → CellsAt w S b (o + i * m) row := by
  cases xs with
  | nil => exact ⟨0, 0, fun h => absurd rfl h, fun i row h => by simp at h, fun i row h => by simp at h⟩
  | cons x0 xs0 =>
   obtain ⟨b, o, cs, ha, _⟩ := hat 0 x0 rfl
   refine ⟨b, o, fun _ => ha, fun i row hi => ?_, fun i row hi j c hj => ?_⟩
   ·rw [List.getElem?_map] at hi
    cases hx : (x0 :: xs0)[i]? with
    | none => rw [hx] at hi; cases hi
    | some x =>
     rw [hx] at hi; cases hi
     obtain ⟨b', o', cs', ha', h1, h2, h3, h4, h5⟩ := hat i x hx
     rw [(hC cs' x h5).1, h3]
   ·rw [List.getElem?_map] at hi
    cases hx : (x0 :: xs0)[i]? with
    | none => rw [hx] at hi; cases hi
    | some x =>
     rw [hx] at hi; cases hi
     obtain ⟨b', o', cs', ha', h1, h2, h3, h4, h5⟩ := hat i x hx
     rw [ha] at ha'; cases ha'
     obtain ⟨u, hu, hr⟩ := (hC cs' x h5).2 j c hj
     exact ⟨hp _ _ h1 h2, u, h4 j u hu, hr⟩
 obtain ⟨b, o, h1, h2, h3⟩ := key
 have := Rep.mk (w := w) (S := S) (a := a) (cap := cap) (rows := xs.map enc) (by rw [List.length_map]; exact hl.2) h1 h2 h3
 rwa [List.length_map] at this
end Go.Proofs.YtcjbjmbialienaaGreatDoor
