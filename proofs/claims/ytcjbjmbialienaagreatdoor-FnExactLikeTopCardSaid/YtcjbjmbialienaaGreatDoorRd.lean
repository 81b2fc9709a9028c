/- How the laws' struct types are read. -/
import Derived.Test.YtcjbjmbialienaaGreatDoorKY
set_option linter.unusedSimpArgs false
set_option linter.unusedVariables false
namespace Go.Proofs.YtcjbjmbialienaaGreatDoor
open Go.RowKit
section
variable {H : Type} {enc : TypeId × Value → H} {w : World} {spare : Nat → Bool} {held : Bool}
theorem jpJ {fuel : Nat} {cs : List Value} {x : DataW H × List MemPlace} (h : DataW.trod enc Tryz.prog w 0 spare held fuel 160 cs = some x) : ∃ d, RdC (.pair (.sl .str) .str) w cs d (fun _ => True) := by
 obtain ⟨ys, n, _, _, hl, hn, hf⟩ := DataW.trod_struct Tryz.underlying160 h
 rw [show Tryz.prog.cellsOf 160 = 2 from by kernel_rfl] at hl
 obtain ⟨c0, c1, rfl⟩ := len2 hl
 have f0 := hf 0 _ rfl
 rw [zc (by rw [hn]; decide)] at f0
 obtain ⟨y0, g0⟩ : ∃ y, DataW.trod enc Tryz.prog w 0 spare held n 23 [c0] = some y := ⟨_, by simpa [show Tryz.prog.cellsOf 23 = 1 from by kernel_rfl] using f0⟩
 obtain ⟨x0, r0⟩ := jH (r := .str) (by decide) Tryz.underlying23 (by kernel_rfl) (fun n cs y hy _ => jN Tryz.underlying9 hy) g0
 have f1 := hf 1 _ rfl
 rw [zc (by rw [hn]; decide)] at f1
 obtain ⟨y1, g1⟩ : ∃ y, DataW.trod enc Tryz.prog w 0 spare held n 9 [c1] = some y := ⟨_, by simpa [show Tryz.prog.cellsOf 9 = 1 from by kernel_rfl] using f1⟩
 obtain ⟨x1, r1⟩ := jN Tryz.underlying9 g1
 exact ⟨_, r0.cons r1⟩
theorem jkp {fuel : Nat} {cs : List Value} {x : DataW H × List MemPlace} (h : DataW.trod enc Tryz.prog w 0 spare held fuel 52 cs = some x) : ∃ d, RdC (.pair (.sl .str) (.sl (.pair (.sl .str) .str))) w cs d (fun _ => True) := by
 obtain ⟨ys, n, _, _, hl, hn, hf⟩ := DataW.trod_struct Tryz.underlying52 h
 rw [show Tryz.prog.cellsOf 52 = 2 from by kernel_rfl] at hl
 obtain ⟨c0, c1, rfl⟩ := len2 hl
 have f0 := hf 0 _ rfl
 rw [zc (by rw [hn]; decide)] at f0
 obtain ⟨y0, g0⟩ : ∃ y, DataW.trod enc Tryz.prog w 0 spare held n 23 [c0] = some y := ⟨_, by simpa [show Tryz.prog.cellsOf 23 = 1 from by kernel_rfl] using f0⟩
 obtain ⟨x0, r0⟩ := jH (r := .str) (by decide) Tryz.underlying23 (by kernel_rfl) (fun n cs y hy _ => jN Tryz.underlying9 hy) g0
 have f1 := hf 1 _ rfl
 rw [zc (by rw [hn]; decide)] at f1
 obtain ⟨y1, g1⟩ : ∃ y, DataW.trod enc Tryz.prog w 0 spare held n 50 [c1] = some y := ⟨_, by simpa [show Tryz.prog.cellsOf 50 = 1 from by kernel_rfl] using f1⟩
 obtain ⟨x1, r1⟩ := jH (r := (.pair (.sl .str) .str)) (by decide) Tryz.underlying50 (by kernel_rfl) (fun n cs y hy _ => jpJ hy) g1
 exact ⟨_, r0.cons r1⟩
theorem jmT {fuel : Nat} {cs : List Value} {x : DataW H × List MemPlace} (h : DataW.trod enc Tryz.prog w 0 spare held fuel 254 cs = some x) : ∃ d, RdC (.pair .str .str) w cs d (fun _ => True) := by
 obtain ⟨ys, n, _, _, hl, hn, hf⟩ := DataW.trod_struct Tryz.underlying254 h
 rw [show Tryz.prog.cellsOf 254 = 2 from by kernel_rfl] at hl
 obtain ⟨c0, c1, rfl⟩ := len2 hl
 have f0 := hf 0 _ rfl
 rw [zc (by rw [hn]; decide)] at f0
 obtain ⟨y0, g0⟩ : ∃ y, DataW.trod enc Tryz.prog w 0 spare held n 9 [c0] = some y := ⟨_, by simpa [show Tryz.prog.cellsOf 9 = 1 from by kernel_rfl] using f0⟩
 obtain ⟨x0, r0⟩ := jN Tryz.underlying9 g0
 have f1 := hf 1 _ rfl
 rw [zc (by rw [hn]; decide)] at f1
 obtain ⟨y1, g1⟩ : ∃ y, DataW.trod enc Tryz.prog w 0 spare held n 9 [c1] = some y := ⟨_, by simpa [show Tryz.prog.cellsOf 9 = 1 from by kernel_rfl] using f1⟩
 obtain ⟨x1, r1⟩ := jN Tryz.underlying9 g1
 exact ⟨_, r0.cons r1⟩
theorem jk8 {fuel : Nat} {cs : List Value} {x : DataW H × List MemPlace} (h : DataW.trod enc Tryz.prog w 0 spare held fuel 256 cs = some x) : ∃ d, RdC (.pair .str (.int .i64)) w cs d (fun _ => True) := by
 obtain ⟨ys, n, _, _, hl, hn, hf⟩ := DataW.trod_struct Tryz.underlying256 h
 rw [show Tryz.prog.cellsOf 256 = 2 from by kernel_rfl] at hl
 obtain ⟨c0, c1, rfl⟩ := len2 hl
 have f0 := hf 0 _ rfl
 rw [zc (by rw [hn]; decide)] at f0
 obtain ⟨y0, g0⟩ : ∃ y, DataW.trod enc Tryz.prog w 0 spare held n 9 [c0] = some y := ⟨_, by simpa [show Tryz.prog.cellsOf 9 = 1 from by kernel_rfl] using f0⟩
 obtain ⟨x0, r0⟩ := jN Tryz.underlying9 g0
 have f1 := hf 1 _ rfl
 rw [zc (by rw [hn]; decide)] at f1
 obtain ⟨y1, g1⟩ : ∃ y, DataW.trod enc Tryz.prog w 0 spare held n 3 [c1] = some y := ⟨_, by simpa [show Tryz.prog.cellsOf 3 = 1 from by kernel_rfl] using f1⟩
 obtain ⟨x1, r1⟩ := jay Tryz.underlying3 g1
 exact ⟨_, r0.cons r1⟩
theorem jpL {fuel : Nat} {cs : List Value} {x : DataW H × List MemPlace} (h : DataW.trod enc Tryz.prog w 0 spare held fuel 165 cs = some x) : ∃ d, RdC (.pair (.int .i64) (.pair (.sl (.pair .str .str)) (.sl (.pair .str (.int .i64))))) w cs d (fun _ => True) := by
 obtain ⟨ys, n, _, _, hl, hn, hf⟩ := DataW.trod_struct Tryz.underlying165 h
 rw [show Tryz.prog.cellsOf 165 = 3 from by kernel_rfl] at hl
 obtain ⟨c0, c1, c2, rfl⟩ := len3 hl
 have f0 := hf 0 _ rfl
 rw [zc (by rw [hn]; decide)] at f0
 obtain ⟨y0, g0⟩ : ∃ y, DataW.trod enc Tryz.prog w 0 spare held n 3 [c0] = some y := ⟨_, by simpa [show Tryz.prog.cellsOf 3 = 1 from by kernel_rfl] using f0⟩
 obtain ⟨x0, r0⟩ := jay Tryz.underlying3 g0
 have f1 := hf 1 _ rfl
 rw [zc (by rw [hn]; decide)] at f1
 obtain ⟨y1, g1⟩ : ∃ y, DataW.trod enc Tryz.prog w 0 spare held n 162 [c1] = some y := ⟨_, by simpa [show Tryz.prog.cellsOf 162 = 1 from by kernel_rfl] using f1⟩
 obtain ⟨x1, r1⟩ := jH (r := (.pair .str .str)) (by decide) Tryz.underlying162 (by kernel_rfl) (fun n cs y hy _ => jmT hy) g1
 have f2 := hf 2 _ rfl
 rw [zc (by rw [hn]; decide)] at f2
 obtain ⟨y2, g2⟩ : ∃ y, DataW.trod enc Tryz.prog w 0 spare held n 163 [c2] = some y := ⟨_, by simpa [show Tryz.prog.cellsOf 163 = 1 from by kernel_rfl] using f2⟩
 obtain ⟨x2, r2⟩ := jH (r := (.pair .str (.int .i64))) (by decide) Tryz.underlying163 (by kernel_rfl) (fun n cs y hy _ => jk8 hy) g2
 exact ⟨_, r0.cons (r1.cons r2)⟩
theorem jlN {fuel : Nat} {cs : List Value} {x : DataW H × List MemPlace} (h : DataW.trod enc Tryz.prog w 0 spare held fuel 258 cs = some x) : ∃ d, RdC (.pair (.int .i64) (.sl (.int .i64))) w cs d (fun _ => True) := by
 obtain ⟨ys, n, _, _, hl, hn, hf⟩ := DataW.trod_struct Tryz.underlying258 h
 rw [show Tryz.prog.cellsOf 258 = 2 from by kernel_rfl] at hl
 obtain ⟨c0, c1, rfl⟩ := len2 hl
 have f0 := hf 0 _ rfl
 rw [zc (by rw [hn]; decide)] at f0
 obtain ⟨y0, g0⟩ : ∃ y, DataW.trod enc Tryz.prog w 0 spare held n 3 [c0] = some y := ⟨_, by simpa [show Tryz.prog.cellsOf 3 = 1 from by kernel_rfl] using f0⟩
 obtain ⟨x0, r0⟩ := jay Tryz.underlying3 g0
 have f1 := hf 1 _ rfl
 rw [zc (by rw [hn]; decide)] at f1
 obtain ⟨y1, g1⟩ : ∃ y, DataW.trod enc Tryz.prog w 0 spare held n 75 [c1] = some y := ⟨_, by simpa [show Tryz.prog.cellsOf 75 = 1 from by kernel_rfl] using f1⟩
 obtain ⟨x1, r1⟩ := jH (r := (.int .i64)) (by decide) Tryz.underlying75 (by kernel_rfl) (fun n cs y hy _ => jay Tryz.underlying3 hy) g1
 exact ⟨_, r0.cons r1⟩
theorem jps {fuel : Nat} {cs : List Value} {x : DataW H × List MemPlace} (h : DataW.trod enc Tryz.prog w 0 spare held fuel 169 cs = some x) : ∃ d, RdC (.pair .str (.pair .str (.sl (.pair (.int .i64) (.sl (.int .i64)))))) w cs d (fun _ => True) := by
 obtain ⟨ys, n, _, _, hl, hn, hf⟩ := DataW.trod_struct Tryz.underlying169 h
 rw [show Tryz.prog.cellsOf 169 = 3 from by kernel_rfl] at hl
 obtain ⟨c0, c1, c2, rfl⟩ := len3 hl
 have f0 := hf 0 _ rfl
 rw [zc (by rw [hn]; decide)] at f0
 obtain ⟨y0, g0⟩ : ∃ y, DataW.trod enc Tryz.prog w 0 spare held n 9 [c0] = some y := ⟨_, by simpa [show Tryz.prog.cellsOf 9 = 1 from by kernel_rfl] using f0⟩
 obtain ⟨x0, r0⟩ := jN Tryz.underlying9 g0
 have f1 := hf 1 _ rfl
 rw [zc (by rw [hn]; decide)] at f1
 obtain ⟨y1, g1⟩ : ∃ y, DataW.trod enc Tryz.prog w 0 spare held n 9 [c1] = some y := ⟨_, by simpa [show Tryz.prog.cellsOf 9 = 1 from by kernel_rfl] using f1⟩
 obtain ⟨x1, r1⟩ := jN Tryz.underlying9 g1
 have f2 := hf 2 _ rfl
 rw [zc (by rw [hn]; decide)] at f2
 obtain ⟨y2, g2⟩ : ∃ y, DataW.trod enc Tryz.prog w 0 spare held n 167 [c2] = some y := ⟨_, by simpa [show Tryz.prog.cellsOf 167 = 1 from by kernel_rfl] using f2⟩
 obtain ⟨x2, r2⟩ := jH (r := (.pair (.int .i64) (.sl (.int .i64)))) (by decide) Tryz.underlying167 (by kernel_rfl) (fun n cs y hy _ => jlN hy) g2
 exact ⟨_, r0.cons (r1.cons r2)⟩
theorem jo2 {fuel : Nat} {cs : List Value} {x : DataW H × List MemPlace} (h : DataW.trod enc Tryz.prog w 0 spare held fuel 56 cs = some x) : ∃ d, RdC (.pair (.sl (.pair (.int .i64) (.pair (.sl (.pair .str .str)) (.sl (.pair .str (.int .i64)))))) (.sl (.pair .str (.pair .str (.sl (.pair (.int .i64) (.sl (.int .i64)))))))) w cs d (fun _ => True) := by
 obtain ⟨ys, n, _, _, hl, hn, hf⟩ := DataW.trod_struct Tryz.underlying56 h
 rw [show Tryz.prog.cellsOf 56 = 2 from by kernel_rfl] at hl
 obtain ⟨c0, c1, rfl⟩ := len2 hl
 have f0 := hf 0 _ rfl
 rw [zc (by rw [hn]; decide)] at f0
 obtain ⟨y0, g0⟩ : ∃ y, DataW.trod enc Tryz.prog w 0 spare held n 53 [c0] = some y := ⟨_, by simpa [show Tryz.prog.cellsOf 53 = 1 from by kernel_rfl] using f0⟩
 obtain ⟨x0, r0⟩ := jH (r := (.pair (.int .i64) (.pair (.sl (.pair .str .str)) (.sl (.pair .str (.int .i64)))))) (by decide) Tryz.underlying53 (by kernel_rfl) (fun n cs y hy _ => jpL hy) g0
 have f1 := hf 1 _ rfl
 rw [zc (by rw [hn]; decide)] at f1
 obtain ⟨y1, g1⟩ : ∃ y, DataW.trod enc Tryz.prog w 0 spare held n 54 [c1] = some y := ⟨_, by simpa [show Tryz.prog.cellsOf 54 = 1 from by kernel_rfl] using f1⟩
 obtain ⟨x1, r1⟩ := jH (r := (.pair .str (.pair .str (.sl (.pair (.int .i64) (.sl (.int .i64))))))) (by decide) Tryz.underlying54 (by kernel_rfl) (fun n cs y hy _ => jps hy) g1
 exact ⟨_, r0.cons r1⟩
end
end Go.Proofs.YtcjbjmbialienaaGreatDoor
