/- How the laws' struct types are read. -/
import Derived.Test.YtjggioppicabbaaK27
set_option linter.unusedSimpArgs false
set_option linter.unusedVariables false
namespace Go.Proofs.Ytjggioppicabbaa
open Go.RowKit
section
variable {H : Type} {enc : TypeId × Value → H} {w : World} {spare : Nat → Bool} {held : Bool}
theorem rdField {fuel : Nat} {cs : List Value} {x : DataW H × List MemPlace} (h : DataW.trod enc Try.prog w 0 spare held fuel 100 cs = some x) : ∃ d, RdC (.pair .str .str) w cs d (fun _ => True) := by
  obtain ⟨ys, n, _, _, hl, hn, hf⟩ := DataW.trod_struct Try.underlying100 h
  rw [show Try.prog.cellsOf 100 = 2 from by kernel_rfl] at hl
  obtain ⟨c0, c1, rfl⟩ := len2 hl
  have f0 := hf 0 _ rfl
  rw [List.getElem?_eq_getElem (by rw [hn]; decide)] at f0
  obtain ⟨y0, g0⟩ : ∃ y, DataW.trod enc Try.prog w 0 spare held n 9 [c0] = some y := ⟨_, by simpa [show Try.prog.cellsOf 9 = 1 from by kernel_rfl] using f0⟩
  obtain ⟨x0, r0⟩ := rd_str Try.underlying9 g0
  have f1 := hf 1 _ rfl
  rw [List.getElem?_eq_getElem (by rw [hn]; decide)] at f1
  obtain ⟨y1, g1⟩ : ∃ y, DataW.trod enc Try.prog w 0 spare held n 9 [c1] = some y := ⟨_, by simpa [show Try.prog.cellsOf 9 = 1 from by kernel_rfl] using f1⟩
  obtain ⟨x1, r1⟩ := rd_str Try.underlying9 g1
  exact ⟨_, r0.cons r1⟩
theorem rdAttr {fuel : Nat} {cs : List Value} {x : DataW H × List MemPlace} (h : DataW.trod enc Try.prog w 0 spare held fuel 102 cs = some x) : ∃ d, RdC (.pair .str (.int .i64)) w cs d (fun _ => True) := by
  obtain ⟨ys, n, _, _, hl, hn, hf⟩ := DataW.trod_struct Try.underlying102 h
  rw [show Try.prog.cellsOf 102 = 2 from by kernel_rfl] at hl
  obtain ⟨c0, c1, rfl⟩ := len2 hl
  have f0 := hf 0 _ rfl
  rw [List.getElem?_eq_getElem (by rw [hn]; decide)] at f0
  obtain ⟨y0, g0⟩ : ∃ y, DataW.trod enc Try.prog w 0 spare held n 9 [c0] = some y := ⟨_, by simpa [show Try.prog.cellsOf 9 = 1 from by kernel_rfl] using f0⟩
  obtain ⟨x0, r0⟩ := rd_str Try.underlying9 g0
  have f1 := hf 1 _ rfl
  rw [List.getElem?_eq_getElem (by rw [hn]; decide)] at f1
  obtain ⟨y1, g1⟩ : ∃ y, DataW.trod enc Try.prog w 0 spare held n 3 [c1] = some y := ⟨_, by simpa [show Try.prog.cellsOf 3 = 1 from by kernel_rfl] using f1⟩
  obtain ⟨x1, r1⟩ := rd_int Try.underlying3 g1
  exact ⟨_, r0.cons r1⟩
theorem rdDoc {fuel : Nat} {cs : List Value} {x : DataW H × List MemPlace} (h : DataW.trod enc Try.prog w 0 spare held fuel 25 cs = some x) : ∃ d, RdC (.pair (.int .i64) (.pair (.sl (.pair .str .str)) (.sl (.pair .str (.int .i64))))) w cs d (fun _ => True) := by
  obtain ⟨ys, n, _, _, hl, hn, hf⟩ := DataW.trod_struct Try.underlying25 h
  rw [show Try.prog.cellsOf 25 = 3 from by kernel_rfl] at hl
  obtain ⟨c0, c1, c2, rfl⟩ := len3 hl
  have f0 := hf 0 _ rfl
  rw [List.getElem?_eq_getElem (by rw [hn]; decide)] at f0
  obtain ⟨y0, g0⟩ : ∃ y, DataW.trod enc Try.prog w 0 spare held n 3 [c0] = some y := ⟨_, by simpa [show Try.prog.cellsOf 3 = 1 from by kernel_rfl] using f0⟩
  obtain ⟨x0, r0⟩ := rd_int Try.underlying3 g0
  have f1 := hf 1 _ rfl
  rw [List.getElem?_eq_getElem (by rw [hn]; decide)] at f1
  obtain ⟨y1, g1⟩ : ∃ y, DataW.trod enc Try.prog w 0 spare held n 22 [c1] = some y := ⟨_, by simpa [show Try.prog.cellsOf 22 = 1 from by kernel_rfl] using f1⟩
  obtain ⟨x1, r1⟩ := rd_slice (r := (.pair .str .str)) (by decide) Try.underlying22 (by kernel_rfl) (fun n cs y hy _ => rdField hy) g1
  have f2 := hf 2 _ rfl
  rw [List.getElem?_eq_getElem (by rw [hn]; decide)] at f2
  obtain ⟨y2, g2⟩ : ∃ y, DataW.trod enc Try.prog w 0 spare held n 23 [c2] = some y := ⟨_, by simpa [show Try.prog.cellsOf 23 = 1 from by kernel_rfl] using f2⟩
  obtain ⟨x2, r2⟩ := rd_slice (r := (.pair .str (.int .i64))) (by decide) Try.underlying23 (by kernel_rfl) (fun n cs y hy _ => rdAttr hy) g2
  exact ⟨_, r0.cons (r1.cons r2)⟩
theorem rdKey {fuel : Nat} {cs : List Value} {x : DataW H × List MemPlace} (h : DataW.trod enc Try.prog w 0 spare held fuel 72 cs = some x) : ∃ d, RdC (.pair .str .bool) w cs d (fun _ => True) := by
  obtain ⟨ys, n, _, _, hl, hn, hf⟩ := DataW.trod_struct Try.underlying72 h
  rw [show Try.prog.cellsOf 72 = 2 from by kernel_rfl] at hl
  obtain ⟨c0, c1, rfl⟩ := len2 hl
  have f0 := hf 0 _ rfl
  rw [List.getElem?_eq_getElem (by rw [hn]; decide)] at f0
  obtain ⟨y0, g0⟩ : ∃ y, DataW.trod enc Try.prog w 0 spare held n 9 [c0] = some y := ⟨_, by simpa [show Try.prog.cellsOf 9 = 1 from by kernel_rfl] using f0⟩
  obtain ⟨x0, r0⟩ := rd_str Try.underlying9 g0
  have f1 := hf 1 _ rfl
  rw [List.getElem?_eq_getElem (by rw [hn]; decide)] at f1
  obtain ⟨y1, g1⟩ : ∃ y, DataW.trod enc Try.prog w 0 spare held n 4 [c1] = some y := ⟨_, by simpa [show Try.prog.cellsOf 4 = 1 from by kernel_rfl] using f1⟩
  obtain ⟨x1, r1⟩ := rd_bool Try.underlying4 g1
  exact ⟨_, r0.cons r1⟩
end
end Go.Proofs.Ytjggioppicabbaa
