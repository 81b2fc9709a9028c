/- What the listed package variable reads as, told of memory. -/
import Derived.Test.YtcjbjmbialienaaGreatDoorRd
import Derived.Test.YtcjbjmbialienaaGreatDoorCards
import Derived.Test.YtcjbjmbialienaaGreatDoorTie
import Derived.ProofKit
import Derived.LaidMore
import Derived.OpenShut
import Derived.Stop.Joined
set_option linter.unusedSimpArgs false
set_option linter.unusedVariables false
namespace Go.Proofs.YtcjbjmbialienaaGreatDoor
open Go.ChangeShapes Go.WideShapes Go.ChangeAt Go.WideMaps Go.WideElems Go.RowKit
abbrev jby : List (String × DataW Unit) := [("loop.example/fossick/impl.none", Rows.laid_loop_example_fossick_impl_none)]
theorem jhU : Tryz.prog.globalNamed "loop.example/fossick/impl.none" = some 0 := by kernel_rfl
theorem jf9 : (Tryz.prog.globals[0]?).map (·.type) = some 98 := by kernel_rfl
theorem jqf (os : Os) (args : Array Value) : laidMetH Tryz.prog jby ((World.doorLaid Tryz.prog 400 os).forCall (fun _ _ => 0) ⟨#[], args, []⟩).memory :=
 laidMetH_of_parts3 (fuel := 8) (laidMet_of_run' 8 (by kernel_rfl) (by kernel_rfl)) (by kernel_rfl) (by kernel_rfl)
theorem jnO {W : World} (h : laidMetH Tryz.prog jby W) : GlobOk W (fun _ => False) (WS W) := by
 rw [MakeChecks.laidMetH_plain _ _ _ (by kernel_rfl)] at h
 obtain ⟨ps, ⟨g0, t0, cs0, f0, p0, q0, hg0, ht0, hv0, hd0, _⟩, _, _⟩ := h
 obtain rfl := Option.some.inj (jhU.symm.trans hg0)
 obtain rfl := Option.some.inj (jf9.symm.trans ht0)
 obtain ⟨y0, y1, n, hx, hl, h0, h1⟩ := trod_struct2 Tryz.underlying98 hd0
 rw [show Tryz.prog.cellsOf 98 = 2 from by kernel_rfl] at hl
 obtain ⟨c0, c1, e⟩ := len2 hl
 rw [e] at h0 h1
 have ci : Tryz.prog.cellsOf 3 = 1 := by kernel_rfl
 obtain ⟨k0, a0, b0, _⟩ := DataW.trod_int Tryz.underlying3 (show DataW.trod _ Tryz.prog W 0 _ false n 3 [c0] = some y0 by simpa [ci] using h0)
 obtain ⟨k1, a1, b1, _⟩ := DataW.trod_int Tryz.underlying3 (show DataW.trod _ Tryz.prog W 0 _ false n 3 [c1] = some y1 by simpa [ci] using h1)
 subst b0; subst b1
 cases a0; cases a1
 have hx1 := congrArg Prod.fst hx
 cases (show (DataW.agg [.lit (.int .i64 0), .lit (.int .i64 1)] : DataW Unit) = .agg [.lit (.int .i64 k0), .lit (.int .i64 k1)] from hx1)
 have hc : ∀ j, W.cell? ⟨0, j, none⟩ = cs0[j]? := World.var?_cell hg0 hv0
 have hcs : ∀ j, cs0[j]? = [Value.int .i64 0, .int .i64 1][j]? := fun j => by rw [← zaN, e]
 have hlt : 0 < W.heap.size := lt_of_cell (o := 0) (v := .int .i64 0) (by rw [hc, hcs]; rfl)
 intro g f hf
 have hg : g = 0 ∧ f = .row (.pair (.int .i64) (.int .i64)) ((0 : Int), (1 : Int)) := by
  unfold gtab lookG at hf
  cases hb : Nat.beq 0 g with
  | true =>
   rw [hb] at hf
   exact ⟨(zby hb).symm, (Option.some.inj hf).symm⟩
  | false =>
   rw [hb] at hf
   cases hf
 obtain ⟨rfl, rfl⟩ := hg
 show CellsAt W (WS W) _ 0 _
 intro j c hj
 have hj' : [PV.int .i64 0, PV.int .i64 1][j]? = some c := hj
 refine ⟨hlt, ?_⟩
 match j, hj' with
 | 0, hj' => cases hj'; exact ⟨_, by rw [hc, hcs]; rfl, .int _ _⟩
 | 1, hj' => cases hj'; exact ⟨_, by rw [hc, hcs]; rfl, .int _ _⟩
 | j + 2, hj' => simp at hj'
theorem jsc {P : Program} {W W' : World} {n : String} {g : Nat} {cs : Array Value} (hg : P.globalNamed n = some g) (h : W.var? P n = some cs) (hb : Below W.heap.size W W') : W'.var? P n = some cs := by
 simp only [World.var?, hg, za] at h ⊢
 have hlt : g < W.heap.size := by
  cases hh : W.heap[g]? with
  | none => rw [hh] at h; cases h
  | some o => exact (zaU.1 hh).1
 rw [hb.block g hlt]
 exact h
end Go.Proofs.YtcjbjmbialienaaGreatDoor
