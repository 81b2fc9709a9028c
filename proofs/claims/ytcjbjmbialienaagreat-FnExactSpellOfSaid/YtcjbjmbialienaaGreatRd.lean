/- How the laws' struct types are read. -/
import Derived.Test.YtcjbjmbialienaaGreatK27
set_option linter.unusedSimpArgs false
set_option linter.unusedVariables false
namespace Go.Proofs.YtcjbjmbialienaaGreat
open Go.RowKit
section
variable {H : Type} {enc : TypeId × Value → H} {w : World} {spare : Nat → Bool} {held : Bool}
theorem rdSyn {fuel : Nat} {cs : List Value} {x : DataW H × List MemPlace} (h : DataW.trod enc Tryz.prog w 0 spare held fuel 118 cs = some x) : ∃ d, RdC (.pair (.sl .str) .str) w cs d (fun _ => True) := by
  obtain ⟨ys, n, _, _, hl, hn, hf⟩ := DataW.trod_struct Tryz.underlying118 h
  rw [show Tryz.prog.cellsOf 118 = 2 from by kernel_rfl] at hl
  obtain ⟨c0, c1, rfl⟩ := len2 hl
  have f0 := hf 0 _ rfl
  rw [List.getElem?_eq_getElem (by rw [hn]; decide)] at f0
  obtain ⟨y0, g0⟩ : ∃ y, DataW.trod enc Tryz.prog w 0 spare held n 23 [c0] = some y := ⟨_, by simpa [show Tryz.prog.cellsOf 23 = 1 from by kernel_rfl] using f0⟩
  obtain ⟨x0, r0⟩ := rd_slice (r := .str) (by decide) Tryz.underlying23 (by kernel_rfl) (fun n cs y hy _ => rd_str Tryz.underlying9 hy) g0
  have f1 := hf 1 _ rfl
  rw [List.getElem?_eq_getElem (by rw [hn]; decide)] at f1
  obtain ⟨y1, g1⟩ : ∃ y, DataW.trod enc Tryz.prog w 0 spare held n 9 [c1] = some y := ⟨_, by simpa [show Tryz.prog.cellsOf 9 = 1 from by kernel_rfl] using f1⟩
  obtain ⟨x1, r1⟩ := rd_str Tryz.underlying9 g1
  exact ⟨_, r0.cons r1⟩
theorem rdConf {fuel : Nat} {cs : List Value} {x : DataW H × List MemPlace} (h : DataW.trod enc Tryz.prog w 0 spare held fuel 45 cs = some x) : ∃ d, RdC (.pair (.sl .str) (.sl (.pair (.sl .str) .str))) w cs d (fun _ => True) := by
  obtain ⟨ys, n, _, _, hl, hn, hf⟩ := DataW.trod_struct Tryz.underlying45 h
  rw [show Tryz.prog.cellsOf 45 = 2 from by kernel_rfl] at hl
  obtain ⟨c0, c1, rfl⟩ := len2 hl
  have f0 := hf 0 _ rfl
  rw [List.getElem?_eq_getElem (by rw [hn]; decide)] at f0
  obtain ⟨y0, g0⟩ : ∃ y, DataW.trod enc Tryz.prog w 0 spare held n 23 [c0] = some y := ⟨_, by simpa [show Tryz.prog.cellsOf 23 = 1 from by kernel_rfl] using f0⟩
  obtain ⟨x0, r0⟩ := rd_slice (r := .str) (by decide) Tryz.underlying23 (by kernel_rfl) (fun n cs y hy _ => rd_str Tryz.underlying9 hy) g0
  have f1 := hf 1 _ rfl
  rw [List.getElem?_eq_getElem (by rw [hn]; decide)] at f1
  obtain ⟨y1, g1⟩ : ∃ y, DataW.trod enc Tryz.prog w 0 spare held n 43 [c1] = some y := ⟨_, by simpa [show Tryz.prog.cellsOf 43 = 1 from by kernel_rfl] using f1⟩
  obtain ⟨x1, r1⟩ := rd_slice (r := (.pair (.sl .str) .str)) (by decide) Tryz.underlying43 (by kernel_rfl) (fun n cs y hy _ => rdSyn hy) g1
  exact ⟨_, r0.cons r1⟩
theorem rdField {fuel : Nat} {cs : List Value} {x : DataW H × List MemPlace} (h : DataW.trod enc Tryz.prog w 0 spare held fuel 182 cs = some x) : ∃ d, RdC (.pair .str .str) w cs d (fun _ => True) := by
  obtain ⟨ys, n, _, _, hl, hn, hf⟩ := DataW.trod_struct Tryz.underlying182 h
  rw [show Tryz.prog.cellsOf 182 = 2 from by kernel_rfl] at hl
  obtain ⟨c0, c1, rfl⟩ := len2 hl
  have f0 := hf 0 _ rfl
  rw [List.getElem?_eq_getElem (by rw [hn]; decide)] at f0
  obtain ⟨y0, g0⟩ : ∃ y, DataW.trod enc Tryz.prog w 0 spare held n 9 [c0] = some y := ⟨_, by simpa [show Tryz.prog.cellsOf 9 = 1 from by kernel_rfl] using f0⟩
  obtain ⟨x0, r0⟩ := rd_str Tryz.underlying9 g0
  have f1 := hf 1 _ rfl
  rw [List.getElem?_eq_getElem (by rw [hn]; decide)] at f1
  obtain ⟨y1, g1⟩ : ∃ y, DataW.trod enc Tryz.prog w 0 spare held n 9 [c1] = some y := ⟨_, by simpa [show Tryz.prog.cellsOf 9 = 1 from by kernel_rfl] using f1⟩
  obtain ⟨x1, r1⟩ := rd_str Tryz.underlying9 g1
  exact ⟨_, r0.cons r1⟩
theorem rdAttr {fuel : Nat} {cs : List Value} {x : DataW H × List MemPlace} (h : DataW.trod enc Tryz.prog w 0 spare held fuel 184 cs = some x) : ∃ d, RdC (.pair .str (.int .i64)) w cs d (fun _ => True) := by
  obtain ⟨ys, n, _, _, hl, hn, hf⟩ := DataW.trod_struct Tryz.underlying184 h
  rw [show Tryz.prog.cellsOf 184 = 2 from by kernel_rfl] at hl
  obtain ⟨c0, c1, rfl⟩ := len2 hl
  have f0 := hf 0 _ rfl
  rw [List.getElem?_eq_getElem (by rw [hn]; decide)] at f0
  obtain ⟨y0, g0⟩ : ∃ y, DataW.trod enc Tryz.prog w 0 spare held n 9 [c0] = some y := ⟨_, by simpa [show Tryz.prog.cellsOf 9 = 1 from by kernel_rfl] using f0⟩
  obtain ⟨x0, r0⟩ := rd_str Tryz.underlying9 g0
  have f1 := hf 1 _ rfl
  rw [List.getElem?_eq_getElem (by rw [hn]; decide)] at f1
  obtain ⟨y1, g1⟩ : ∃ y, DataW.trod enc Tryz.prog w 0 spare held n 3 [c1] = some y := ⟨_, by simpa [show Tryz.prog.cellsOf 3 = 1 from by kernel_rfl] using f1⟩
  obtain ⟨x1, r1⟩ := rd_int Tryz.underlying3 g1
  exact ⟨_, r0.cons r1⟩
theorem rdDoc {fuel : Nat} {cs : List Value} {x : DataW H × List MemPlace} (h : DataW.trod enc Tryz.prog w 0 spare held fuel 123 cs = some x) : ∃ d, RdC (.pair (.int .i64) (.pair (.sl (.pair .str .str)) (.sl (.pair .str (.int .i64))))) w cs d (fun _ => True) := by
  obtain ⟨ys, n, _, _, hl, hn, hf⟩ := DataW.trod_struct Tryz.underlying123 h
  rw [show Tryz.prog.cellsOf 123 = 3 from by kernel_rfl] at hl
  obtain ⟨c0, c1, c2, rfl⟩ := len3 hl
  have f0 := hf 0 _ rfl
  rw [List.getElem?_eq_getElem (by rw [hn]; decide)] at f0
  obtain ⟨y0, g0⟩ : ∃ y, DataW.trod enc Tryz.prog w 0 spare held n 3 [c0] = some y := ⟨_, by simpa [show Tryz.prog.cellsOf 3 = 1 from by kernel_rfl] using f0⟩
  obtain ⟨x0, r0⟩ := rd_int Tryz.underlying3 g0
  have f1 := hf 1 _ rfl
  rw [List.getElem?_eq_getElem (by rw [hn]; decide)] at f1
  obtain ⟨y1, g1⟩ : ∃ y, DataW.trod enc Tryz.prog w 0 spare held n 120 [c1] = some y := ⟨_, by simpa [show Tryz.prog.cellsOf 120 = 1 from by kernel_rfl] using f1⟩
  obtain ⟨x1, r1⟩ := rd_slice (r := (.pair .str .str)) (by decide) Tryz.underlying120 (by kernel_rfl) (fun n cs y hy _ => rdField hy) g1
  have f2 := hf 2 _ rfl
  rw [List.getElem?_eq_getElem (by rw [hn]; decide)] at f2
  obtain ⟨y2, g2⟩ : ∃ y, DataW.trod enc Tryz.prog w 0 spare held n 121 [c2] = some y := ⟨_, by simpa [show Tryz.prog.cellsOf 121 = 1 from by kernel_rfl] using f2⟩
  obtain ⟨x2, r2⟩ := rd_slice (r := (.pair .str (.int .i64))) (by decide) Tryz.underlying121 (by kernel_rfl) (fun n cs y hy _ => rdAttr hy) g2
  exact ⟨_, r0.cons (r1.cons r2)⟩
theorem rdPost {fuel : Nat} {cs : List Value} {x : DataW H × List MemPlace} (h : DataW.trod enc Tryz.prog w 0 spare held fuel 186 cs = some x) : ∃ d, RdC (.pair (.int .i64) (.sl (.int .i64))) w cs d (fun _ => True) := by
  obtain ⟨ys, n, _, _, hl, hn, hf⟩ := DataW.trod_struct Tryz.underlying186 h
  rw [show Tryz.prog.cellsOf 186 = 2 from by kernel_rfl] at hl
  obtain ⟨c0, c1, rfl⟩ := len2 hl
  have f0 := hf 0 _ rfl
  rw [List.getElem?_eq_getElem (by rw [hn]; decide)] at f0
  obtain ⟨y0, g0⟩ : ∃ y, DataW.trod enc Tryz.prog w 0 spare held n 3 [c0] = some y := ⟨_, by simpa [show Tryz.prog.cellsOf 3 = 1 from by kernel_rfl] using f0⟩
  obtain ⟨x0, r0⟩ := rd_int Tryz.underlying3 g0
  have f1 := hf 1 _ rfl
  rw [List.getElem?_eq_getElem (by rw [hn]; decide)] at f1
  obtain ⟨y1, g1⟩ : ∃ y, DataW.trod enc Tryz.prog w 0 spare held n 75 [c1] = some y := ⟨_, by simpa [show Tryz.prog.cellsOf 75 = 1 from by kernel_rfl] using f1⟩
  obtain ⟨x1, r1⟩ := rd_slice (r := (.int .i64)) (by decide) Tryz.underlying75 (by kernel_rfl) (fun n cs y hy _ => rd_int Tryz.underlying3 hy) g1
  exact ⟨_, r0.cons r1⟩
theorem rdEntry {fuel : Nat} {cs : List Value} {x : DataW H × List MemPlace} (h : DataW.trod enc Tryz.prog w 0 spare held fuel 127 cs = some x) : ∃ d, RdC (.pair .str (.pair .str (.sl (.pair (.int .i64) (.sl (.int .i64)))))) w cs d (fun _ => True) := by
  obtain ⟨ys, n, _, _, hl, hn, hf⟩ := DataW.trod_struct Tryz.underlying127 h
  rw [show Tryz.prog.cellsOf 127 = 3 from by kernel_rfl] at hl
  obtain ⟨c0, c1, c2, rfl⟩ := len3 hl
  have f0 := hf 0 _ rfl
  rw [List.getElem?_eq_getElem (by rw [hn]; decide)] at f0
  obtain ⟨y0, g0⟩ : ∃ y, DataW.trod enc Tryz.prog w 0 spare held n 9 [c0] = some y := ⟨_, by simpa [show Tryz.prog.cellsOf 9 = 1 from by kernel_rfl] using f0⟩
  obtain ⟨x0, r0⟩ := rd_str Tryz.underlying9 g0
  have f1 := hf 1 _ rfl
  rw [List.getElem?_eq_getElem (by rw [hn]; decide)] at f1
  obtain ⟨y1, g1⟩ : ∃ y, DataW.trod enc Tryz.prog w 0 spare held n 9 [c1] = some y := ⟨_, by simpa [show Tryz.prog.cellsOf 9 = 1 from by kernel_rfl] using f1⟩
  obtain ⟨x1, r1⟩ := rd_str Tryz.underlying9 g1
  have f2 := hf 2 _ rfl
  rw [List.getElem?_eq_getElem (by rw [hn]; decide)] at f2
  obtain ⟨y2, g2⟩ : ∃ y, DataW.trod enc Tryz.prog w 0 spare held n 125 [c2] = some y := ⟨_, by simpa [show Tryz.prog.cellsOf 125 = 1 from by kernel_rfl] using f2⟩
  obtain ⟨x2, r2⟩ := rd_slice (r := (.pair (.int .i64) (.sl (.int .i64)))) (by decide) Tryz.underlying125 (by kernel_rfl) (fun n cs y hy _ => rdPost hy) g2
  exact ⟨_, r0.cons (r1.cons r2)⟩
theorem rdSeg {fuel : Nat} {cs : List Value} {x : DataW H × List MemPlace} (h : DataW.trod enc Tryz.prog w 0 spare held fuel 49 cs = some x) : ∃ d, RdC (.pair (.sl (.pair (.int .i64) (.pair (.sl (.pair .str .str)) (.sl (.pair .str (.int .i64)))))) (.sl (.pair .str (.pair .str (.sl (.pair (.int .i64) (.sl (.int .i64)))))))) w cs d (fun _ => True) := by
  obtain ⟨ys, n, _, _, hl, hn, hf⟩ := DataW.trod_struct Tryz.underlying49 h
  rw [show Tryz.prog.cellsOf 49 = 2 from by kernel_rfl] at hl
  obtain ⟨c0, c1, rfl⟩ := len2 hl
  have f0 := hf 0 _ rfl
  rw [List.getElem?_eq_getElem (by rw [hn]; decide)] at f0
  obtain ⟨y0, g0⟩ : ∃ y, DataW.trod enc Tryz.prog w 0 spare held n 46 [c0] = some y := ⟨_, by simpa [show Tryz.prog.cellsOf 46 = 1 from by kernel_rfl] using f0⟩
  obtain ⟨x0, r0⟩ := rd_slice (r := (.pair (.int .i64) (.pair (.sl (.pair .str .str)) (.sl (.pair .str (.int .i64)))))) (by decide) Tryz.underlying46 (by kernel_rfl) (fun n cs y hy _ => rdDoc hy) g0
  have f1 := hf 1 _ rfl
  rw [List.getElem?_eq_getElem (by rw [hn]; decide)] at f1
  obtain ⟨y1, g1⟩ : ∃ y, DataW.trod enc Tryz.prog w 0 spare held n 47 [c1] = some y := ⟨_, by simpa [show Tryz.prog.cellsOf 47 = 1 from by kernel_rfl] using f1⟩
  obtain ⟨x1, r1⟩ := rd_slice (r := (.pair .str (.pair .str (.sl (.pair (.int .i64) (.sl (.int .i64))))))) (by decide) Tryz.underlying47 (by kernel_rfl) (fun n cs y hy _ => rdEntry hy) g1
  exact ⟨_, r0.cons r1⟩
end
end Go.Proofs.YtcjbjmbialienaaGreat
