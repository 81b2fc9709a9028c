/- Cache: how it lies in memory, and the laws' own functions over it. -/
import Derived.Test.YthodbhjnfeahhaaFamBase
import Derived.Test.YthodbhjnfeahhaaFamItem
import Derived.Test.YthodbhjnfeahhaaMarkText
set_option linter.unusedSimpArgs false
set_option linter.unusedVariables false
namespace Go.Proofs.Ythodbhjnfeahhaa
open Go.RowKit
abbrev DCache := Int × Int × List DItem
def CacheC : CRep DCache := fun w cs x p => ∃ hv2, cs = [.int .i64 x.1, .int .i64 x.2.1, hv2] ∧ SRep 2 ItemC w hv2 x.2.2 p
theorem cacheGood : Good 3 CacheC := by
  refine ⟨?_, ?_, ?_, ?_, ?_⟩
  · rintro w cs x p ⟨hv2, rfl, s2⟩; rfl
  · rintro w cs x p ⟨hv2, rfl, s2⟩ u hu; simp at hu; rcases hu with rfl | rfl | rfl
    · exact rfl
    · exact rfl
    · exact s2.one'
  · rintro w w' cs x p ⟨hv2, rfl, s2⟩ hs; exact ⟨hv2, rfl, s2.same itemGood hs⟩
  · rintro w cs x p q ⟨hv2, rfl, s2⟩ hs; exact ⟨hv2, rfl, s2.mono itemGood hs⟩
  · rintro w cs x p ⟨hv2, rfl, s2⟩; exact ⟨hv2, rfl, s2.bound itemGood⟩
def CacheO : CRep DCache := fun w cs x p => ∃ hv2, cs = [.int .i64 x.1, .int .i64 x.2.1, hv2] ∧ SOwn 2 ItemO w hv2 x.2.2 p
theorem cacheGoodO : Good 3 CacheO := by
  refine ⟨?_, ?_, ?_, ?_, ?_⟩
  · rintro w cs x p ⟨hv2, rfl, s2⟩; rfl
  · rintro w cs x p ⟨hv2, rfl, s2⟩ u hu; simp at hu; rcases hu with rfl | rfl | rfl
    · exact rfl
    · exact rfl
    · exact s2.one'
  · rintro w w' cs x p ⟨hv2, rfl, s2⟩ hs; exact ⟨hv2, rfl, s2.same itemGoodO hs⟩
  · rintro w cs x p q ⟨hv2, rfl, s2⟩ hs; exact ⟨hv2, rfl, s2.mono hs⟩
  · rintro w cs x p ⟨hv2, rfl, s2⟩; exact ⟨hv2, rfl, s2.bound itemGoodO⟩
theorem cacheRead {w : World} {cs : List Value} {x : DCache} {p : Blk} (h : CacheO w cs x p) : CacheC w cs x p := by
  obtain ⟨hv2, rfl, s2⟩ := h; exact ⟨hv2, rfl, (s2.rep itemGoodO).imp itemRead⟩
def szDCache (x : DCache) : Nat := (szL (fun x : DItem => szDItem x) x.2.2)
def mkDCache (x : DCache) (k : Nat) : DCache := (((k : Nat) : Int), ((k + 1 : Nat) : Int), mkL mkDItem cntDItem x.2.2 (k + 2))
def cntDCache (x : DCache) : Nat := 2 + cntL cntDItem x.2.2
set_option maxHeartbeats 400000 in
theorem readCache {H : Type} {enc : TypeId × Value → H} {w : World} {spare : Nat → Bool} {held : Bool} {fuel : Nat} {cs : List Value} {x : DataW H × List MemPlace} (h : DataW.trod enc Try.prog w 0 spare held fuel 35 cs = some x) : ∃ d : DCache, CacheC w cs d (fun _ => True) := by
  obtain ⟨ys, n, _, _, hl, hn, hf⟩ := DataW.trod_struct Try.underlying35 h
  rw [show Try.prog.cellsOf 35 = 3 from by kernel_rfl] at hl
  obtain ⟨c0, c1, c2, rfl⟩ := len3 hl
  have f0 := hf 0 _ rfl
  rw [List.getElem?_eq_getElem (by rw [hn]; decide)] at f0
  obtain ⟨y0, g0⟩ : ∃ y, DataW.trod enc Try.prog w 0 spare held n 3 [c0] = some y := ⟨_, by simpa [show Try.prog.cellsOf 3 = 1 from by kernel_rfl] using f0⟩
  obtain ⟨x0, e0, _, _⟩ := DataW.trod_int Try.underlying3 g0
  simp only [List.cons.injEq, and_true] at e0
  subst e0
  have f1 := hf 1 _ rfl
  rw [List.getElem?_eq_getElem (by rw [hn]; decide)] at f1
  obtain ⟨y1, g1⟩ : ∃ y, DataW.trod enc Try.prog w 0 spare held n 3 [c1] = some y := ⟨_, by simpa [show Try.prog.cellsOf 3 = 1 from by kernel_rfl] using f1⟩
  obtain ⟨x1, e1, _, _⟩ := DataW.trod_int Try.underlying3 g1
  simp only [List.cons.injEq, and_true] at e1
  subst e1
  have f2 := hf 2 _ rfl
  rw [List.getElem?_eq_getElem (by rw [hn]; decide)] at f2
  obtain ⟨y2, g2⟩ : ∃ y, DataW.trod enc Try.prog w 0 spare held n 33 [c2] = some y := ⟨_, by simpa [show Try.prog.cellsOf 33 = 1 from by kernel_rfl] using f2⟩
  obtain ⟨v2, x2, e2, s2⟩ := read_slice (m := 2) (C := ItemC) (by decide) Try.underlying33 (by kernel_rfl) (fun n cs y hy _ => readItem hy) g2
  simp only [List.cons.injEq, and_true] at e2
  subst e2
  exact ⟨(x0, x1, x2), ⟨_, rfl, s2⟩⟩
set_option maxHeartbeats 800000 in
theorem eqCache_any (x y : DCache) (v2 : Value) (u2 : Value) (p q : Blk) (w : World) (hx2 : SRep 2 ItemC w v2 x.2.2 p) (hy2 : SRep 2 ItemC w u2 y.2.2 q) (r : Bool) (hr : r = decide (x = y)) :
    Calls Try.prog 12 #[.agg #[.int .i64 x.1, .int .i64 x.2.1, v2], .agg #[.int .i64 y.1, .int .i64 y.2.1, u2]] w fun e w' => e = .returned (.bool r) ∧ Below w.heap.size w w' := by
  obtain ⟨x0, x1, x2⟩ := x
  obtain ⟨y0, y1, y2⟩ := y
  have HR := Lib.hid hr
  clear hr
  have HX2 := Lib.hid hx2
  have HY2 := Lib.hid hy2
  clear hx2 hy2
  by_cases e0 : x0 = y0
  · have d0 : (x0 != y0) = false := by simp [e0]
    have E0 := Lib.hid e0
    clear e0
    by_cases e1 : x1 = y1
    · have d1 : (x1 != y1) = false := by simp [e1]
      have E1 := Lib.hid e1
      clear e1
      by_cases e2 : x2 = y2
      · have E2 := Lib.hid e2
        clear e2
        go_enter Try.func12, Try.ntmps12
        go_wp2_with fail
        refine (eqItemS_any _ _ x2 y2 p q _ (HX2.out.later itemGood ?hx) (HY2.out.later itemGood ?hy) true (by simp [E2.out])).mono ?_
        case hx => go_grown
        case hy => go_grown
        rintro e wc0 ⟨rfl, hb0⟩
        have hB0 : Below w.heap.size w wc0 := below_tr hb0 (by go_grown)
        go_wp2
        go_ret
        exact ⟨by rw [HR.out]; simp [E0.out, E1.out, E2.out], hB0⟩
      · have E2 := Lib.hid e2
        clear e2
        go_enter Try.func12, Try.ntmps12
        go_wp2_with fail
        refine (eqItemS_any _ _ x2 y2 p q _ (HX2.out.later itemGood ?hx) (HY2.out.later itemGood ?hy) false (by simp [E2.out])).mono ?_
        case hx => go_grown
        case hy => go_grown
        rintro e wc0 ⟨rfl, hb0⟩
        have hB0 : Below w.heap.size w wc0 := below_tr hb0 (by go_grown)
        go_wp2
        go_ret
        exact ⟨by rw [HR.out]; simp [E0.out, E1.out, E2.out], hB0⟩
    · have d1 : (x1 != y1) = true := by simp [e1]
      have E1 := Lib.hid e1
      clear e1
      go_enter Try.func12, Try.ntmps12
      go_wp2
      go_ret
      exact ⟨by rw [HR.out]; simp [E0.out, E1.out], by go_grown⟩
  · have d0 : (x0 != y0) = true := by simp [e0]
    have E0 := Lib.hid e0
    clear e0
    go_enter Try.func12, Try.ntmps12
    go_wp2
    go_ret
    exact ⟨by rw [HR.out]; simp [E0.out], by go_grown⟩
set_option maxHeartbeats 800000 in
theorem szCache_any (x : DCache) (v2 : Value) (p : Blk) (l : Int) (h0 : 0 ≤ l) (h1 : l ≤ 1048576) (w : World) (h2 : SRep 2 ItemC w v2 x.2.2 p) (r : Int) (hr : r = subM l (szDCache x)) :
    Calls Try.prog 18 #[.agg #[.int .i64 x.1, .int .i64 x.2.1, v2], .int .i64 l] w fun e w' => e = .returned (.int .i64 r) ∧ Below w.heap.size w w' := by
  have HR := Lib.hid hr
  clear hr
  have H2 := Lib.hid h2
  clear h2
  obtain ⟨n2, hn2⟩ : ∃ n : Nat, n = (szL (fun x : DItem => szDItem x) x.2.2) := ⟨_, rfl⟩
  have HS : Hid (szDCache x = n2) := by show _ = _; simp only [szDCache, hn2]
  have HN2 := Lib.hid hn2
  clear hn2
  by_cases c0 : (n2 : Int) ≤ l
  · go_enter Try.func18, Try.ntmps18
    go_wp2_with fail
    refine (szItemS_any _ x.2.2 p _ (by omega) (by omega) _ (H2.out.later itemGood ?hx) (l - n2) (by rw [← HN2.out]; first | (rw [subM_pos (by omega)]; done) | (rw [subM_pos (by omega)]; omega) | (rw [subM_neg (by omega)]))).mono ?_
    case hx => go_grown
    rintro e wc0 ⟨rfl, hb0⟩
    have hB0 : Below w.heap.size w wc0 := below_tr hb0 (by go_grown)
    go_wp2
    go_ret
    exact ⟨ret_int (by rw [HR.out, HS.out]; first | (rw [subM_pos (by omega)]; done) | (rw [subM_pos (by omega)]; omega) | (rw [subM_neg (by omega)])), hB0⟩
  · go_enter Try.func18, Try.ntmps18
    go_wp2_with fail
    refine (szItemS_any _ x.2.2 p _ (by omega) (by omega) _ (H2.out.later itemGood ?hx) (-1) (by rw [← HN2.out]; first | (rw [subM_pos (by omega)]; done) | (rw [subM_pos (by omega)]; omega) | (rw [subM_neg (by omega)]))).mono ?_
    case hx => go_grown
    rintro e wc0 ⟨rfl, hb0⟩
    have hB0 : Below w.heap.size w wc0 := below_tr hb0 (by go_grown)
    go_wp2
    go_ret
    exact ⟨ret_int (by rw [HR.out, HS.out]; first | (rw [subM_pos (by omega)]; done) | (rw [subM_pos (by omega)]; omega) | (rw [subM_neg (by omega)])), hB0⟩
set_option maxHeartbeats 800000 in
theorem toCache_any (x : DCache) (v2 : Value) (p : Blk) (w : World) (h2 : SRep 2 ItemC w v2 x.2.2 p) (hs : szDCache x ≤ 1048576) :
    Calls Try.prog 20 #[.agg #[.int .i64 x.1, .int .i64 x.2.1, v2]] w (RetO CacheO x w) := by
  simp only [szDCache] at hs
  have H2 := Lib.hid h2
  clear h2
  go_enter Try.func20, Try.ntmps20
  go_wp2_with fail
  refine (toItemS_any _ x.2.2 p _ (H2.out.later itemGood ?hx) (by omega)).mono ?_
  case hx => go_grown
  rintro e wc0 ⟨r2, rfl, own2, hb0⟩
  obtain ⟨ra2, rc2, re2⟩ := own2.shape
  subst re2
  have hB0 : Below w.heap.size w wc0 := below_tr hb0 (by go_grown)
  have hS0 := hb0.size
  obtain ⟨hcell0, hfroz0⟩ := bcell hb0
  simp only [World.size_alloc, World.size_setCell, World.size_drew] at hS0
  have ya0_0 : wc0.cell? ⟨w.heap.size, 0, none⟩ = some (.int .i64 x.1) := by rw [hcell0 _ _ (by go_size)]; go_simp
  have yr0_0 : wc0.cell? ⟨w.heap.size + 1, 0, none⟩ = some (.int .i64 0) := by rw [hcell0 _ _ (by go_size)]; go_simp
  have yo0_0 : wc0.cell? ⟨w.heap.size + 1 + 1, 0, none⟩ = some (.int .i64 x.1) := by rw [hcell0 _ _ (by go_size)]; go_simp
  have ya0_1 : wc0.cell? ⟨w.heap.size, 1, none⟩ = some (.int .i64 x.2.1) := by rw [hcell0 _ _ (by go_size)]; go_simp
  have yr0_1 : wc0.cell? ⟨w.heap.size + 1, 1, none⟩ = some (.int .i64 0) := by rw [hcell0 _ _ (by go_size)]; go_simp
  have yo0_1 : wc0.cell? ⟨w.heap.size + 1 + 1, 1, none⟩ = some (.int .i64 x.2.1) := by rw [hcell0 _ _ (by go_size)]; go_simp
  have ya0_2 : wc0.cell? ⟨w.heap.size, 2, none⟩ = some (v2) := by rw [hcell0 _ _ (by go_size)]; go_simp
  have yr0_2 : wc0.cell? ⟨w.heap.size + 1, 2, none⟩ = some (.slice none 0 0) := by rw [hcell0 _ _ (by go_size)]; go_simp
  have yo0_2 : wc0.cell? ⟨w.heap.size + 1 + 1, 2, none⟩ = some (.slice none 0 0) := by rw [hcell0 _ _ (by go_size)]; go_simp
  have fr0 : ∀ j, wc0.frozen? ⟨w.heap.size + 1, j, none⟩ = false := fun j => by rw [hfroz0 _ _ (by go_size)]; go_simp
  have fo0 : ∀ j, wc0.frozen? ⟨w.heap.size + 1 + 1, j, none⟩ = false := fun j => by rw [hfroz0 _ _ (by go_size)]; go_simp
  clear hcell0 hfroz0
  go_wp2
  try simp only [Exit.inBlock, Exit.then]
  refine bodyPost_ret (v := .agg #[.int .i64 x.1, .int .i64 x.2.1, .slice ra2 x.2.2.length rc2]) (by simp [results, Try.results20, go_sem, yr0_0, yr0_1, yr0_2, yo0_0, yo0_1, yo0_2, fr0, fo0]) rfl ?_
  refine ⟨_, rfl, ?_, by go_grown⟩
  have hV : Upd (fun k => k < w.heap.size + 3) wc0 ((((wc0.setCell ⟨w.heap.size + 1 + 1, 2, none⟩ (.slice ra2 x.2.2.length rc2)).setCell ⟨w.heap.size + 1, 0, none⟩ (.int .i64 x.1)).setCell ⟨w.heap.size + 1, 1, none⟩ (.int .i64 x.2.1)).setCell ⟨w.heap.size + 1, 2, none⟩ (.slice ra2 x.2.2.length rc2)) := (by repeat' (first | exact Upd.refl _ _ | refine Upd.setCell ?_ (Or.inl ?_) _ | (dsimp only; omega) | (simp; done) | (simp; omega)))
  exact ⟨_, rfl, ((own2.bound itemGoodO).upd itemGoodO hV (fun k hk => by have h1 := hk.1; simp only [World.size_alloc, World.size_setCell, World.size_drew] at h1; omega)).mono (fun k hk => by have h1 := hk.1; have h2 := hk.2; simp only [World.size_alloc, World.size_setCell, World.size_drew] at h1; omega)⟩
set_option maxHeartbeats 1000000 in
theorem markCache_any (x : DCache) (v2 : Value) (p : Blk) (k0 : Nat) (ki : Int) (hki : ki = (k0 : Int)) (hk0 : k0 + cntL cntDItem x.2.2 ≤ 100000000) (w : World) (own2 : SOwn 2 ItemO w v2 x.2.2 p) :
    Calls Try.prog 13 #[.agg #[.int .i64 x.1, .int .i64 x.2.1, v2], .int .i64 ki] w fun e w' => e = .returned (.int .i64 ((k0 + cntL cntDItem x.2.2 : Nat) : Int)) ∧ Upd p w w' ∧ SOwn 2 ItemO w' v2 (mkL mkDItem cntDItem x.2.2 (k0)) p := by
  subst hki
  have OW2 := Lib.hid own2
  clear own2
  go_enter Try.func13, Try.ntmps13
  go_wp2_with fail
  refine (markItemS_any _ x.2.2 p (k0) _ (by omega) (by omega) _ (OW2.out.later itemGoodO (by go_grown))).mono ?_
  rintro e w0 ⟨rfl, hu0, om2⟩
  have OM2 := Lib.hid om2
  clear om2
  have U0 : Upd p w w0 := (Upd.of_below (by go_grown)).trans (hu0.mono (fun k hk _ => hk))
  go_wp2
  go_ret
  exact ⟨rfl, U0, OM2.out⟩
set_option maxHeartbeats 1000000 in
theorem heldCache_any (x : DCache) (v2 : Value) (p : Blk) (k0 : Nat) (ki : Int) (hki : ki = (k0 : Int)) (hk0 : k0 + cntL cntDItem x.2.2 ≤ 100000000) (w : World) (h2 : SRep 2 ItemC w v2 (mkL mkDItem cntDItem x.2.2 (k0)) p) :
    Calls Try.prog 14 #[.agg #[.int .i64 x.1, .int .i64 x.2.1, v2], .int .i64 ki] w fun e w' => e = .returned (.int .i64 ((k0 + cntL cntDItem x.2.2 : Nat) : Int)) ∧ Below w.heap.size w w' := by
  subst hki
  have H2 := Lib.hid h2
  clear h2
  go_enter Try.func14, Try.ntmps14
  go_wp2_with fail
  refine (heldItemS_any _ x.2.2 p (k0) _ (by omega) (by omega) _ (H2.out.later itemGood (by go_grown))).mono ?_
  rintro e w0 ⟨rfl, hb0⟩
  have hB0 : Below w.heap.size w w0 := below_tr hb0 (by go_grown)
  go_wp2
  go_ret
  exact ⟨rfl, hB0⟩
end Go.Proofs.Ythodbhjnfeahhaa
