/- A region that draws its order, whose operations read and whose callees may lay new blocks: one walk, guards and all. -/
import Derived.Test.YthodbhjnfeahhaaBase
set_option linter.unusedSimpArgs false
set_option linter.unusedVariables false
namespace Go.Proofs.Ythodbhjnfeahhaa
open Go.RowKit
theorem SRep.shape {α : Type} {m : Nat} {C : CRep α} {w : World} {v : Value} {xs : List α} {p : Blk} (h : SRep m C w v xs p) : ∃ a c, v = .slice a xs.length c := by
  obtain ⟨a, c, e, _⟩ := h; exact ⟨a, c, e⟩
theorem noText {x : ByteArray} (h : x = ByteArray.empty) : x.toList = [] := by subst h; rw [ByteArray.toList_eq]; rfl
theorem someText {x : ByteArray} (h : ¬ x = ByteArray.empty) : ¬ x.toList = [] := fun e => h (bytes_ext (e.trans (noText rfl).symm))
theorem someText' {x : ByteArray} (h : ¬ x = ByteArray.empty) : x.toList.isEmpty = false := by
  cases hx : x.toList with
  | nil => exact absurd hx (someText h)
  | cons a l => rfl
/-- What these cells hold. -/
def Cells (w : World) : List (Addr × Value) → Prop
  | [] => True
  | x :: l => w.cell? x.1 = some x.2 ∧ Cells w l
theorem Cells.later {w w' : World} (h : Below w.heap.size w w') : ∀ {l : List (Addr × Value)}, Cells w l → Cells w' l
  | [], _ => trivial
  | _ :: _, hl => ⟨cell_later h hl.1, Cells.later h hl.2⟩
theorem cells_nil {w : World} : Cells w [] ↔ True := Iff.rfl
theorem cells_cons {w : World} {a : Addr} {v : Value} {l : List (Addr × Value)} : Cells w ((a, v) :: l) ↔ w.cell? a = some v ∧ Cells w l := Iff.rfl
/-- A world in which nothing old has changed. -/
structure RG (w : World) where
  w' : World
  h : Below w.heap.size w w'
instance (w : World) : Nonempty (RG w) := ⟨⟨w, Below.refl _ _⟩⟩
theorem rg_below {W w : World} (hb : Below W.heap.size W w) (p : RG w) : Below W.heap.size W p.w' := hb.trans ⟨p.h.os, p.h.tape, p.h.output, p.h.size, fun k hk => p.h.block k (Nat.lt_of_lt_of_le hk hb.size)⟩
section
variable {P : Program} {ops : Array Oper}
theorem wp_region_b (l : List (Addr × Value)) {id : Nat} {Q : Exit → Act → World → Prop} {a : Act} {W : World} {os : List Oper} (hm : P.follows .mixedOrders = true) (hB : Region.lexB .any os.toArray = true)
    (hS : Cells W l) (h : ∀ w : World, (∀ p : RG w, Below W.heap.size W p.w') → (∀ p : RG w, Cells p.w' l) → wpQuiet P os.toArray (fun w' => ∃ p : RG w, w' = p.w') (fun a' => ∀ w', (∃ p : RG w, w' = p.w') → Q .normal a' w') os a) : (Code.region id os.toArray true).wp P Q a W := by
  have hd : Below W.heap.size W { W with drawn := W.drawn + 1 } := ⟨rfl, rfl, rfl, Nat.le_refl _, fun _ _ => rfl⟩
  refine wp_region_quiet (C := fun w' => ∃ p : RG W, w' = p.w') hm hB ⟨⟨_, hd⟩, rfl⟩ ?_
  exact h W (fun p => p.h) (fun p => hS.later p.h)
theorem wpQuiet_end {W w : World} {C : World → Prop} {l : List (Addr × Value)} {Q : Exit → Act → World → Prop} {a : Act} (hq : ∀ p : RG w, Below W.heap.size W p.w') (hl : ∀ p : RG w, Cells p.w' l) (h : ∀ w', Below W.heap.size W w' → Cells w' l → Q .normal a w') :
    wpQuiet P ops C (fun a' => ∀ w', (∃ p : RG w, w' = p.w') → Q .normal a' w') [] a :=
  wpQuiet_nil (fun w' ⟨p, e⟩ => e ▸ h p.w' (hq p) (hl p))
theorem calls_rg {f : FuncId} {args : Array Value} {w : World} {p : RG w} {v : Value} (h : Calls P f args p.w' fun e w' => e = .returned v ∧ Below p.w'.heap.size p.w' w') :
    Calls P f args p.w' fun e w' => e = .returned v ∧ ∃ p' : RG w, w' = p'.w' :=
  h.mono fun _ _ ⟨he, hb⟩ => ⟨he, ⟨_, rg_below p.h ⟨_, hb⟩⟩, rfl⟩
theorem calls_rg_same {f : FuncId} {args : Array Value} {w : World} {p : RG w} {v : Value} (h : Calls P f args p.w' fun e w' => e = .returned v ∧ p.w' = w') :
    Calls P f args p.w' fun e w' => e = .returned v ∧ ∃ p' : RG w, w' = p'.w' :=
  h.mono fun _ _ ⟨he, hb⟩ => ⟨he, p, hb.symm⟩
end
/- Its use, for [(cell, value), ..] and arms that close each call by calls_rg or calls_rg_same, is laid out where it stands. -/
end Go.Proofs.Ythodbhjnfeahhaa
