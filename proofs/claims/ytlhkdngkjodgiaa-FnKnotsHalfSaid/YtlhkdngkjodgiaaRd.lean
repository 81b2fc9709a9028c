/- How the laws' struct types are read. -/
import Derived.Test.YtlhkdngkjodgiaaK27
set_option linter.unusedSimpArgs false
set_option linter.unusedVariables false
namespace Go.Proofs.Ytlhkdngkjodgiaa
open Go.RowKit
theorem RdC.app {a b : Tp} {w : World} {cs es : List Value} {x : a.D} {y : b.D} {p : Blk} (h1 : RdC a w cs x p) (h2 : RdC b w es y p) : RdC (.pair a b) w (cs ++ es) (x, y) p := by
  refine ⟨⟨h1.1, h2.1⟩, ?_, fun j e hj => ?_⟩
  · have e1 := h1.2.1; have e2 := h2.2.1
    show (cs ++ es).length = a.w + b.w
    rw [List.length_append]
    omega
  · have e1 : (enc a x).length = cs.length := by rw [enc_len, ← h1.2.1]
    have e2 : enc (.pair a b) (x, y) = enc a x ++ enc b y := by rw [enc]
    rw [e2] at hj
    by_cases hl : j < cs.length
    · rw [List.getElem?_append_left (by omega)] at hj
      obtain ⟨u, hu, hr⟩ := h1.2.2 j e hj
      exact ⟨u, by rw [List.getElem?_append_left hl]; exact hu, hr⟩
    · rw [List.getElem?_append_right (by omega), e1] at hj
      obtain ⟨u, hu, hr⟩ := h2.2.2 (j - cs.length) e hj
      exact ⟨u, by rw [List.getElem?_append_right (by omega)]; exact hu, hr⟩
section
variable {H : Type} {enc : TypeId × Value → H} {w : World} {spare : Nat → Bool} {held : Bool}
theorem rdPoint {fuel : Nat} {cs : List Value} {x : DataW H × List MemPlace} (h : DataW.trod enc Try.prog w 0 spare held fuel 63 cs = some x) : ∃ d, RdC (.pair (.int .i64) (.pair (.int .i64) (.int .i64))) w cs d (fun _ => True) := by
  obtain ⟨ys, n, _, _, hl, hn, hf⟩ := DataW.trod_struct Try.underlying63 h
  rw [show Try.prog.cellsOf 63 = 3 from by kernel_rfl] at hl
  obtain ⟨c0, c1, c2, rfl⟩ := len3 hl
  have f0 := hf 0 _ rfl
  rw [List.getElem?_eq_getElem (by rw [hn]; decide)] at f0
  obtain ⟨y0, g0⟩ : ∃ y, DataW.trod enc Try.prog w 0 spare held n 3 [c0] = some y := ⟨_, by simpa [show Try.prog.cellsOf 3 = 1 from by kernel_rfl] using f0⟩
  obtain ⟨x0, r0⟩ := rd_int Try.underlying3 g0
  have f1 := hf 1 _ rfl
  rw [List.getElem?_eq_getElem (by rw [hn]; decide)] at f1
  obtain ⟨y1, g1⟩ : ∃ y, DataW.trod enc Try.prog w 0 spare held n 3 [c1] = some y := ⟨_, by simpa [show Try.prog.cellsOf 3 = 1 from by kernel_rfl] using f1⟩
  obtain ⟨x1, r1⟩ := rd_int Try.underlying3 g1
  have f2 := hf 2 _ rfl
  rw [List.getElem?_eq_getElem (by rw [hn]; decide)] at f2
  obtain ⟨y2, g2⟩ : ∃ y, DataW.trod enc Try.prog w 0 spare held n 3 [c2] = some y := ⟨_, by simpa [show Try.prog.cellsOf 3 = 1 from by kernel_rfl] using f2⟩
  obtain ⟨x2, r2⟩ := rd_int Try.underlying3 g2
  exact ⟨_, r0.cons (r1.cons r2)⟩
theorem rdBox {fuel : Nat} {cs : List Value} {x : DataW H × List MemPlace} (h : DataW.trod enc Try.prog w 0 spare held fuel 43 cs = some x) : ∃ d, RdC (.pair (.int .i64) (.pair (.int .i64) (.pair (.int .i64) (.int .i64)))) w cs d (fun _ => True) := by
  obtain ⟨ys, n, _, _, hl, hn, hf⟩ := DataW.trod_struct Try.underlying43 h
  rw [show Try.prog.cellsOf 43 = 4 from by kernel_rfl] at hl
  obtain ⟨c0, c1, c2, c3, rfl⟩ := len4 hl
  have f0 := hf 0 _ rfl
  rw [List.getElem?_eq_getElem (by rw [hn]; decide)] at f0
  obtain ⟨y0, g0⟩ : ∃ y, DataW.trod enc Try.prog w 0 spare held n 3 [c0] = some y := ⟨_, by simpa [show Try.prog.cellsOf 3 = 1 from by kernel_rfl] using f0⟩
  obtain ⟨x0, r0⟩ := rd_int Try.underlying3 g0
  have f1 := hf 1 _ rfl
  rw [List.getElem?_eq_getElem (by rw [hn]; decide)] at f1
  obtain ⟨y1, g1⟩ : ∃ y, DataW.trod enc Try.prog w 0 spare held n 3 [c1] = some y := ⟨_, by simpa [show Try.prog.cellsOf 3 = 1 from by kernel_rfl] using f1⟩
  obtain ⟨x1, r1⟩ := rd_int Try.underlying3 g1
  have f2 := hf 2 _ rfl
  rw [List.getElem?_eq_getElem (by rw [hn]; decide)] at f2
  obtain ⟨y2, g2⟩ : ∃ y, DataW.trod enc Try.prog w 0 spare held n 3 [c2] = some y := ⟨_, by simpa [show Try.prog.cellsOf 3 = 1 from by kernel_rfl] using f2⟩
  obtain ⟨x2, r2⟩ := rd_int Try.underlying3 g2
  have f3 := hf 3 _ rfl
  rw [List.getElem?_eq_getElem (by rw [hn]; decide)] at f3
  obtain ⟨y3, g3⟩ : ∃ y, DataW.trod enc Try.prog w 0 spare held n 3 [c3] = some y := ⟨_, by simpa [show Try.prog.cellsOf 3 = 1 from by kernel_rfl] using f3⟩
  obtain ⟨x3, r3⟩ := rd_int Try.underlying3 g3
  exact ⟨_, r0.cons (r1.cons (r2.cons r3))⟩
theorem rdKnot {fuel : Nat} {cs : List Value} {x : DataW H × List MemPlace} (h : DataW.trod enc Try.prog w 0 spare held fuel 65 cs = some x) : ∃ d, RdC (.pair (.pair (.int .i64) (.pair (.int .i64) (.int .i64))) (.pair (.int .i64) (.pair (.int .i64) (.pair (.int .i64) (.pair (.int .i64) (.int .i64)))))) w cs d (fun _ => True) := by
  obtain ⟨ys, n, _, _, hl, hn, hf⟩ := DataW.trod_struct Try.underlying65 h
  rw [show Try.prog.cellsOf 65 = 8 from by kernel_rfl] at hl
  obtain ⟨c0, c1, c2, c3, c4, c5, c6, c7, rfl⟩ := len8 hl
  have f0 := hf 0 _ rfl
  rw [List.getElem?_eq_getElem (by rw [hn]; decide)] at f0
  obtain ⟨y0, g0⟩ : ∃ y, DataW.trod enc Try.prog w 0 spare held n 63 [c0, c1, c2] = some y := ⟨_, by simpa [show Try.prog.cellsOf 63 = 3 from by kernel_rfl] using f0⟩
  obtain ⟨x0, r0⟩ := rdPoint g0
  have f1 := hf 1 _ rfl
  rw [List.getElem?_eq_getElem (by rw [hn]; decide)] at f1
  obtain ⟨y1, g1⟩ : ∃ y, DataW.trod enc Try.prog w 0 spare held n 3 [c3] = some y := ⟨_, by simpa [show Try.prog.cellsOf 3 = 1 from by kernel_rfl] using f1⟩
  obtain ⟨x1, r1⟩ := rd_int Try.underlying3 g1
  have f2 := hf 2 _ rfl
  rw [List.getElem?_eq_getElem (by rw [hn]; decide)] at f2
  obtain ⟨y2, g2⟩ : ∃ y, DataW.trod enc Try.prog w 0 spare held n 43 [c4, c5, c6, c7] = some y := ⟨_, by simpa [show Try.prog.cellsOf 43 = 4 from by kernel_rfl] using f2⟩
  obtain ⟨x2, r2⟩ := rdBox g2
  exact ⟨_, r0.app (r1.cons r2)⟩
end
end Go.Proofs.Ytlhkdngkjodgiaa
