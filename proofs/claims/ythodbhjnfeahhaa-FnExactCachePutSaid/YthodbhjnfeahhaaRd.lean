/- How the laws' struct types are read. -/
import Derived.Test.YthodbhjnfeahhaaK27
set_option linter.unusedSimpArgs false
set_option linter.unusedVariables false
namespace Go.Proofs.Ythodbhjnfeahhaa
open Go.RowKit
section
variable {H : Type} {enc : TypeId × Value → H} {w : World} {spare : Nat → Bool} {held : Bool}
theorem rdHit {fuel : Nat} {cs : List Value} {x : DataW H × List MemPlace} (h : DataW.trod enc Try.prog w 0 spare held fuel 84 cs = some x) : ∃ d, RdC (.pair (.int .i64) (.int .i64)) w cs d (fun _ => True) := by
  obtain ⟨ys, n, _, _, hl, hn, hf⟩ := DataW.trod_struct Try.underlying84 h
  rw [show Try.prog.cellsOf 84 = 2 from by kernel_rfl] at hl
  obtain ⟨c0, c1, rfl⟩ := len2 hl
  have f0 := hf 0 _ rfl
  rw [List.getElem?_eq_getElem (by rw [hn]; decide)] at f0
  obtain ⟨y0, g0⟩ : ∃ y, DataW.trod enc Try.prog w 0 spare held n 3 [c0] = some y := ⟨_, by simpa [show Try.prog.cellsOf 3 = 1 from by kernel_rfl] using f0⟩
  obtain ⟨x0, r0⟩ := rd_int Try.underlying3 g0
  have f1 := hf 1 _ rfl
  rw [List.getElem?_eq_getElem (by rw [hn]; decide)] at f1
  obtain ⟨y1, g1⟩ : ∃ y, DataW.trod enc Try.prog w 0 spare held n 3 [c1] = some y := ⟨_, by simpa [show Try.prog.cellsOf 3 = 1 from by kernel_rfl] using f1⟩
  obtain ⟨x1, r1⟩ := rd_int Try.underlying3 g1
  exact ⟨_, r0.cons r1⟩
theorem rdItem {fuel : Nat} {cs : List Value} {x : DataW H × List MemPlace} (h : DataW.trod enc Try.prog w 0 spare held fuel 91 cs = some x) : ∃ d, RdC (.pair .str (.sl (.pair (.int .i64) (.int .i64)))) w cs d (fun _ => True) := by
  obtain ⟨ys, n, _, _, hl, hn, hf⟩ := DataW.trod_struct Try.underlying91 h
  rw [show Try.prog.cellsOf 91 = 2 from by kernel_rfl] at hl
  obtain ⟨c0, c1, rfl⟩ := len2 hl
  have f0 := hf 0 _ rfl
  rw [List.getElem?_eq_getElem (by rw [hn]; decide)] at f0
  obtain ⟨y0, g0⟩ : ∃ y, DataW.trod enc Try.prog w 0 spare held n 9 [c0] = some y := ⟨_, by simpa [show Try.prog.cellsOf 9 = 1 from by kernel_rfl] using f0⟩
  obtain ⟨x0, r0⟩ := rd_str Try.underlying9 g0
  have f1 := hf 1 _ rfl
  rw [List.getElem?_eq_getElem (by rw [hn]; decide)] at f1
  obtain ⟨y1, g1⟩ : ∃ y, DataW.trod enc Try.prog w 0 spare held n 54 [c1] = some y := ⟨_, by simpa [show Try.prog.cellsOf 54 = 1 from by kernel_rfl] using f1⟩
  obtain ⟨x1, r1⟩ := rd_slice (r := (.pair (.int .i64) (.int .i64))) (by decide) Try.underlying54 (by kernel_rfl) (fun n cs y hy _ => rdHit hy) g1
  exact ⟨_, r0.cons r1⟩
theorem rdCache {fuel : Nat} {cs : List Value} {x : DataW H × List MemPlace} (h : DataW.trod enc Try.prog w 0 spare held fuel 35 cs = some x) : ∃ d, RdC (.pair (.int .i64) (.pair (.int .i64) (.sl (.pair .str (.sl (.pair (.int .i64) (.int .i64))))))) w cs d (fun _ => True) := by
  obtain ⟨ys, n, _, _, hl, hn, hf⟩ := DataW.trod_struct Try.underlying35 h
  rw [show Try.prog.cellsOf 35 = 3 from by kernel_rfl] at hl
  obtain ⟨c0, c1, c2, rfl⟩ := len3 hl
  have f0 := hf 0 _ rfl
  rw [List.getElem?_eq_getElem (by rw [hn]; decide)] at f0
  obtain ⟨y0, g0⟩ : ∃ y, DataW.trod enc Try.prog w 0 spare held n 3 [c0] = some y := ⟨_, by simpa [show Try.prog.cellsOf 3 = 1 from by kernel_rfl] using f0⟩
  obtain ⟨x0, r0⟩ := rd_int Try.underlying3 g0
  have f1 := hf 1 _ rfl
  rw [List.getElem?_eq_getElem (by rw [hn]; decide)] at f1
  obtain ⟨y1, g1⟩ : ∃ y, DataW.trod enc Try.prog w 0 spare held n 3 [c1] = some y := ⟨_, by simpa [show Try.prog.cellsOf 3 = 1 from by kernel_rfl] using f1⟩
  obtain ⟨x1, r1⟩ := rd_int Try.underlying3 g1
  have f2 := hf 2 _ rfl
  rw [List.getElem?_eq_getElem (by rw [hn]; decide)] at f2
  obtain ⟨y2, g2⟩ : ∃ y, DataW.trod enc Try.prog w 0 spare held n 33 [c2] = some y := ⟨_, by simpa [show Try.prog.cellsOf 33 = 1 from by kernel_rfl] using f2⟩
  obtain ⟨x2, r2⟩ := rd_slice (r := (.pair .str (.sl (.pair (.int .i64) (.int .i64))))) (by decide) Try.underlying33 (by kernel_rfl) (fun n cs y hy _ => rdItem hy) g2
  exact ⟨_, r0.cons (r1.cons r2)⟩
end
end Go.Proofs.Ythodbhjnfeahhaa
