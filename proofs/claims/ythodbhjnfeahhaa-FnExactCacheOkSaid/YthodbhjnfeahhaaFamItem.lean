/- Item: how it lies in memory, and the laws' own functions over it. -/
import Derived.Test.YthodbhjnfeahhaaFamBase
import Derived.Test.YthodbhjnfeahhaaFamHit
import Derived.Test.YthodbhjnfeahhaaMarkText
set_option linter.unusedSimpArgs false
set_option linter.unusedVariables false
namespace Go.Proofs.Ythodbhjnfeahhaa
open Go.RowKit
abbrev DItem := ByteArray × List DHit
def ItemC : CRep DItem := fun w cs x p => ∃ hv1, cs = [.string x.1, hv1] ∧ x.1.size ≤ 9223372036854775807 ∧ SRep 2 HitC w hv1 x.2 p
theorem itemGood : Good 2 ItemC := by
  refine ⟨?_, ?_, ?_, ?_, ?_⟩
  · rintro w cs x p ⟨hv1, rfl, z0, s1⟩; rfl
  · rintro w cs x p ⟨hv1, rfl, z0, s1⟩ u hu; simp at hu; rcases hu with rfl | rfl
    · exact rfl
    · exact s1.one'
  · rintro w w' cs x p ⟨hv1, rfl, z0, s1⟩ hs; exact ⟨hv1, rfl, z0, s1.same hitGood hs⟩
  · rintro w cs x p q ⟨hv1, rfl, z0, s1⟩ hs; exact ⟨hv1, rfl, z0, s1.mono hitGood hs⟩
  · rintro w cs x p ⟨hv1, rfl, z0, s1⟩; exact ⟨hv1, rfl, z0, s1.bound hitGood⟩
def ItemO : CRep DItem := fun w cs x p => ∃ hv1, cs = [.string x.1, hv1] ∧ x.1.size ≤ 9223372036854775807 ∧ SOwn 2 HitC w hv1 x.2 p
theorem itemGoodO : Good 2 ItemO := by
  refine ⟨?_, ?_, ?_, ?_, ?_⟩
  · rintro w cs x p ⟨hv1, rfl, z0, s1⟩; rfl
  · rintro w cs x p ⟨hv1, rfl, z0, s1⟩ u hu; simp at hu; rcases hu with rfl | rfl
    · exact rfl
    · exact s1.one'
  · rintro w w' cs x p ⟨hv1, rfl, z0, s1⟩ hs; exact ⟨hv1, rfl, z0, s1.same hitGood hs⟩
  · rintro w cs x p q ⟨hv1, rfl, z0, s1⟩ hs; exact ⟨hv1, rfl, z0, s1.mono hs⟩
  · rintro w cs x p ⟨hv1, rfl, z0, s1⟩; exact ⟨hv1, rfl, z0, s1.bound hitGood⟩
theorem itemRead {w : World} {cs : List Value} {x : DItem} {p : Blk} (h : ItemO w cs x p) : ItemC w cs x p := by
  obtain ⟨hv1, rfl, z0, s1⟩ := h; exact ⟨hv1, rfl, z0, s1.rep hitGood⟩
def szDItem (x : DItem) : Nat := x.1.size + (x.2.length)
def mkDItem (x : DItem) (k : Nat) : DItem := (mText (k), mkL mkDHit cntDHit x.2 (k + 1))
def cntDItem (x : DItem) : Nat := 1 + cntL cntDHit x.2
set_option maxHeartbeats 400000 in
theorem readItem {H : Type} {enc : TypeId × Value → H} {w : World} {spare : Nat → Bool} {held : Bool} {fuel : Nat} {cs : List Value} {x : DataW H × List MemPlace} (h : DataW.trod enc Try.prog w 0 spare held fuel 91 cs = some x) : ∃ d : DItem, ItemC w cs d (fun _ => True) := by
  obtain ⟨ys, n, _, _, hl, hn, hf⟩ := DataW.trod_struct Try.underlying91 h
  rw [show Try.prog.cellsOf 91 = 2 from by kernel_rfl] at hl
  obtain ⟨c0, c1, rfl⟩ := len2 hl
  have f0 := hf 0 _ rfl
  rw [List.getElem?_eq_getElem (by rw [hn]; decide)] at f0
  obtain ⟨y0, g0⟩ : ∃ y, DataW.trod enc Try.prog w 0 spare held n 9 [c0] = some y := ⟨_, by simpa [show Try.prog.cellsOf 9 = 1 from by kernel_rfl] using f0⟩
  obtain ⟨x0, e0, _, z0⟩ := DataW.trod_string Try.underlying9 g0
  simp only [List.cons.injEq, and_true] at e0
  subst e0
  simp only [maxLen] at z0
  have f1 := hf 1 _ rfl
  rw [List.getElem?_eq_getElem (by rw [hn]; decide)] at f1
  obtain ⟨y1, g1⟩ : ∃ y, DataW.trod enc Try.prog w 0 spare held n 54 [c1] = some y := ⟨_, by simpa [show Try.prog.cellsOf 54 = 1 from by kernel_rfl] using f1⟩
  obtain ⟨v1, x1, e1, s1⟩ := read_slice (m := 2) (C := HitC) (by decide) Try.underlying54 (by kernel_rfl) (fun n cs y hy _ => readHit hy) g1
  simp only [List.cons.injEq, and_true] at e1
  subst e1
  exact ⟨(x0, x1), ⟨_, rfl, by omega, s1⟩⟩
set_option maxHeartbeats 800000 in
theorem eqItem_any (x y : DItem) (v1 : Value) (u1 : Value) (p q : Blk) (w : World) (hx1 : SRep 2 HitC w v1 x.2 p) (hy1 : SRep 2 HitC w u1 y.2 q) (r : Bool) (hr : r = decide (x = y)) :
    Calls Try.prog 58 #[.agg #[.string x.1, v1], .agg #[.string y.1, u1]] w fun e w' => e = .returned (.bool r) ∧ Below w.heap.size w w' := by
  obtain ⟨x0, x1⟩ := x
  obtain ⟨y0, y1⟩ := y
  have HR := Lib.hid hr
  clear hr
  have HX1 := Lib.hid hx1
  have HY1 := Lib.hid hy1
  clear hx1 hy1
  by_cases e0 : x0 = y0
  · have d0 := strEq_true e0
    have E0 := Lib.hid e0
    clear e0
    by_cases e1 : x1 = y1
    · have E1 := Lib.hid e1
      clear e1
      go_enter Try.func58, Try.ntmps58
      go_wp2_with fail
      refine (eqHitS_any _ _ x1 y1 p q _ (HX1.out.later hitGood ?hx) (HY1.out.later hitGood ?hy) true (by simp [E1.out])).mono ?_
      case hx => go_grown
      case hy => go_grown
      rintro e wc0 ⟨rfl, hb0⟩
      have hB0 : Below w.heap.size w wc0 := below_tr hb0 (by go_grown)
      go_wp2
      go_ret
      exact ⟨by rw [HR.out]; simp [E0.out, E1.out], hB0⟩
    · have E1 := Lib.hid e1
      clear e1
      go_enter Try.func58, Try.ntmps58
      go_wp2_with fail
      refine (eqHitS_any _ _ x1 y1 p q _ (HX1.out.later hitGood ?hx) (HY1.out.later hitGood ?hy) false (by simp [E1.out])).mono ?_
      case hx => go_grown
      case hy => go_grown
      rintro e wc0 ⟨rfl, hb0⟩
      have hB0 : Below w.heap.size w wc0 := below_tr hb0 (by go_grown)
      go_wp2
      go_ret
      exact ⟨by rw [HR.out]; simp [E0.out, E1.out], hB0⟩
  · have d0 := strEq_false e0
    have E0 := Lib.hid e0
    clear e0
    go_enter Try.func58, Try.ntmps58
    go_wp2
    go_ret
    exact ⟨by rw [HR.out]; simp [E0.out], by go_grown⟩
set_option maxHeartbeats 800000 in
theorem eqItemS_any (v1 v2 : Value) (xs ys : List DItem) (p q : Blk) (w : World) (h1 : SRep 2 ItemC w v1 xs p) (h2 : SRep 2 ItemC w v2 ys q) (r : Bool) (hr : r = decide (xs = ys)) :
    Calls Try.prog 37 #[v1, v2] w fun e w' => e = .returned (.bool r) ∧ Below w.heap.size w w' := by
  obtain ⟨a1, c1, rfl, l1, at1⟩ := h1.opn
  obtain ⟨a2, c2, rfl, l2, at2⟩ := h2.opn
  have HR := Lib.hid hr
  clear hr h1 h2
  by_cases hn : xs.length = ys.length
  · have HN := Lib.hid hn
    have hn1 : xs.length ≤ ys.length := by omega
    have hn2 : ys.length ≤ xs.length := by omega
    have hnb : ((xs.length : Int) != (ys.length : Int)) = false := by simp [hn]
    clear hn
    go_enter Try.func37, Try.ntmps37
    go_wp2
    go_loopw [5] (fun i wr => ∃ k : Nat, k ≤ xs.length ∧ i = .int .i64 k ∧ Below w.heap.size w wr ∧ ∀ i (h1 : i < xs.length) (h2 : i < ys.length), i < k → xs[i] = ys[i]) (fun i _ => xs.length - (intOf i).toNat)
    case atStart => exact ⟨0, Nat.zero_le _, rfl, Below.refl _ _, fun i _ _ h => by omega⟩
    case round =>
      obtain ⟨k, hk, rfl, hb, hq⟩ := hrel
      have HQ := Lib.hid hq
      clear hq
      by_cases hlt : k < xs.length
      · have hlt2 : k < ys.length := by omega
        obtain ⟨b1, o1, cs1, rfl, _, _, hc1, ⟨gx1, rfl, gxz0, gxs1⟩⟩ := at1 k hlt
        obtain ⟨b2, o2, cs2, rfl, _, _, hc2, ⟨gy1, rfl, gyz0, gys1⟩⟩ := at2 k hlt2
        have x0 : wr.cell? ⟨b1, o1 + k * 2, none⟩ = some (.string xs[k].1) := cell_later hb (hc1 0 _ rfl)
        have x1 : wr.cell? ⟨b1, o1 + k * 2 + 1, none⟩ = some (gx1) := cell_later hb (hc1 1 _ rfl)
        have y0 : wr.cell? ⟨b2, o2 + k * 2, none⟩ = some (.string ys[k].1) := cell_later hb (hc2 0 _ rfl)
        have y1 : wr.cell? ⟨b2, o2 + k * 2 + 1, none⟩ = some (gy1) := cell_later hb (hc2 1 _ rfl)
        clear at1 at2 hc1 hc2
        by_cases e : xs[k] = ys[k]
        · have HE := Lib.hid e
          clear e
          go_wp2
          go_region_held3 (fun w' => w'.cell? ⟨b1, o1 + k * 2, none⟩ = some (.string xs[k].1) ∧ w'.cell? ⟨b1, o1 + k * 2 + 1, none⟩ = some (gx1) ∧ w'.cell? ⟨b2, o2 + k * 2, none⟩ = some (.string ys[k].1) ∧ w'.cell? ⟨b2, o2 + k * 2 + 1, none⟩ = some (gy1)) (first | exact ⟨x0, x1, y0, y1⟩ | exact ⟨cell_later hb2 x0, cell_later hb2 x1, cell_later hb2 y0, cell_later hb2 y1⟩) (first | (go_at_call 58; refine (eqItem_any xs[k] ys[k] _ _ p q _ (gxs1.later hitGood (below_drew hb)) (gys1.later hitGood (below_drew hb)) true (by simp [HE.out])).mono ?_; rintro e w' ⟨rfl, hb2⟩))
          go_wp2
          go_roundw
          case rel => exact ⟨k + 1, by omega, by go_num, below_trans' hb hb2, fun i h1 h2 h3 => by
            rcases Nat.lt_or_ge i k with h | h
            · exact HQ.out i h1 h2 h
            · obtain rfl : i = k := by omega
              exact HE.out⟩
          case measure => simp [intOf]; omega
        · have HE := Lib.hid e
          clear e
          go_wp2
          go_region_held3 (fun w' => w'.cell? ⟨b1, o1 + k * 2, none⟩ = some (.string xs[k].1) ∧ w'.cell? ⟨b1, o1 + k * 2 + 1, none⟩ = some (gx1) ∧ w'.cell? ⟨b2, o2 + k * 2, none⟩ = some (.string ys[k].1) ∧ w'.cell? ⟨b2, o2 + k * 2 + 1, none⟩ = some (gy1)) (first | exact ⟨x0, x1, y0, y1⟩ | exact ⟨cell_later hb2 x0, cell_later hb2 x1, cell_later hb2 y0, cell_later hb2 y1⟩) (first | (go_at_call 58; refine (eqItem_any xs[k] ys[k] _ _ p q _ (gxs1.later hitGood (below_drew hb)) (gys1.later hitGood (below_drew hb)) false (by simp [HE.out])).mono ?_; rintro e w' ⟨rfl, hb2⟩))
          go_wp2
          go_ret
          exact ⟨by rw [HR.out]; simp [list_ne_of hlt hlt2 HE.out], below_trans' hb hb2⟩
      · go_wp2
        go_ret
        exact ⟨by rw [HR.out]; simp [list_eq_of HN.out (fun i h1 h2 => HQ.out i h1 h2 (by omega))], hb⟩
  · have hnb : ((xs.length : Int) != (ys.length : Int)) = true := by simp; omega
    go_enter Try.func37, Try.ntmps37
    go_wp2
    go_ret
    exact ⟨by rw [HR.out]; simp; intro h; subst h; exact hn rfl, Below.refl _ _⟩
set_option maxHeartbeats 800000 in
theorem szItem_any (x : DItem) (v1 : Value) (p : Blk) (l : Int) (h0 : 0 ≤ l) (h1 : l ≤ 1048576) (w : World) (hz0 : x.1.size ≤ 9223372036854775807) (h1 : SRep 2 HitC w v1 x.2 p) (r : Int) (hr : r = subM l (szDItem x)) :
    Calls Try.prog 60 #[.agg #[.string x.1, v1], .int .i64 l] w fun e w' => e = .returned (.int .i64 r) ∧ Below w.heap.size w w' := by
  have HR := Lib.hid hr
  clear hr
  have H1 := Lib.hid h1
  clear h1
  obtain ⟨n0, hn0⟩ : ∃ n : Nat, n = x.1.size := ⟨_, rfl⟩
  obtain ⟨n1, hn1⟩ : ∃ n : Nat, n = (x.2.length) := ⟨_, rfl⟩
  have HS : Hid (szDItem x = n0 + n1) := by show _ = _; simp only [szDItem, hn0, hn1]
  have hi0 : (x.1.size : Int) ≤ n0 := by omega
  have hj0 : (n0 : Int) ≤ x.1.size := by omega
  have HN0 := Lib.hid hn0
  clear hn0
  have HN1 := Lib.hid hn1
  clear hn1
  by_cases c0 : (n0 : Int) ≤ l
  · by_cases c1 : (n0 : Int) + (n1 : Int) ≤ l
    · go_enter Try.func60, Try.ntmps60
      go_wp2_with fail
      refine (szHitS_any _ x.2 p _ (by omega) (by omega) _ (H1.out.later hitGood ?hx) (l - x.1.size - n1) (by rw [← HN1.out]; first | (rw [subM_pos (by omega)]; done) | (rw [subM_pos (by omega)]; omega) | (rw [subM_neg (by omega)]))).mono ?_
      case hx => go_grown
      rintro e wc0 ⟨rfl, hb0⟩
      have hB0 : Below w.heap.size w wc0 := below_tr hb0 (by go_grown)
      go_wp2
      go_ret
      exact ⟨ret_int (by rw [HR.out, HS.out]; first | (rw [subM_pos (by omega)]; done) | (rw [subM_pos (by omega)]; omega) | (rw [subM_neg (by omega)])), hB0⟩
    · go_enter Try.func60, Try.ntmps60
      go_wp2_with fail
      refine (szHitS_any _ x.2 p _ (by omega) (by omega) _ (H1.out.later hitGood ?hx) (-1) (by rw [← HN1.out]; first | (rw [subM_pos (by omega)]; done) | (rw [subM_pos (by omega)]; omega) | (rw [subM_neg (by omega)]))).mono ?_
      case hx => go_grown
      rintro e wc0 ⟨rfl, hb0⟩
      have hB0 : Below w.heap.size w wc0 := below_tr hb0 (by go_grown)
      go_wp2
      go_ret
      exact ⟨ret_int (by rw [HR.out, HS.out]; first | (rw [subM_pos (by omega)]; done) | (rw [subM_pos (by omega)]; omega) | (rw [subM_neg (by omega)])), hB0⟩
  · go_enter Try.func60, Try.ntmps60
    go_wp2
    go_ret
    exact ⟨ret_int (by rw [HR.out, HS.out]; first | (rw [subM_pos (by omega)]; done) | (rw [subM_pos (by omega)]; omega) | (rw [subM_neg (by omega)])), by go_grown⟩
set_option maxHeartbeats 800000 in
theorem szItemS_any (v : Value) (xs : List DItem) (p : Blk) (l : Int) (h0 : 0 ≤ l) (h1 : l ≤ 1048576) (w : World) (h : SRep 2 ItemC w v xs p) (r : Int) (hr : r = subM l (szL (fun x : DItem => szDItem x) xs)) :
    Calls Try.prog 43 #[v, .int .i64 l] w fun e w' => e = .returned (.int .i64 r) ∧ Below w.heap.size w w' := by
  obtain ⟨a, c, rfl, hl, hat⟩ := h.opn
  have HR := Lib.hid hr
  clear hr h
  have hlen := szL_len (fun x : DItem => szDItem x) xs
  by_cases c0 : (xs.length : Int) ≤ l
  · go_enter Try.func43, Try.ntmps43
    go_wp2
    go_loopw [1, 5] (fun lv i wr => ∃ k : Nat, k ≤ xs.length ∧ i = .int .i64 k ∧ ∃ m : Nat, m = szL (fun x : DItem => szDItem x) (xs.take k) + (xs.length - k) ∧ (m : Int) ≤ l ∧ lv = .int .i64 (l - m) ∧ Below w.heap.size w wr) (fun _ i _ => xs.length - (intOf i).toNat)
    case atStart => exact ⟨0, Nat.zero_le _, rfl, xs.length, by simp [szL], c0, rfl, Below.refl _ _⟩
    case round =>
      obtain ⟨k, hk, rfl, m, hm, hml, rfl, hb⟩ := hrel
      have HM := Lib.hid hm
      clear hm
      by_cases hlt : k < xs.length
      · have HT := Lib.hid (szL_take (fun x : DItem => szDItem x) xs k hlt)
        have HA := Lib.hid (szL_at (fun x : DItem => szDItem x) xs k hlt)
        have HL := Lib.hid (szL_take_le (fun x : DItem => szDItem x) xs (k + 1))
        obtain ⟨b1, o1, cs1, rfl, _, _, hc1, ⟨gx1, rfl, gz0, gs1⟩⟩ := hat k hlt
        have x0 : wr.cell? ⟨b1, o1 + k * 2, none⟩ = some (.string xs[k].1) := cell_later hb (hc1 0 _ rfl)
        have x1 : wr.cell? ⟨b1, o1 + k * 2 + 1, none⟩ = some (gx1) := cell_later hb (hc1 1 _ rfl)
        obtain ⟨n, hn⟩ : ∃ n : Nat, n = szDItem xs[k] := ⟨_, rfl⟩
        have HN := Lib.hid hn
        clear hn hat hc1
        by_cases c1 : (m : Int) + n ≤ l
        · go_wp2_with fail
          refine (szItem_any xs[k] _ p _ (by omega) (by omega) _ gz0 (gs1.later hitGood hb) (l - m - n) (by rw [← HN.out]; first | (rw [subM_pos (by omega)]; done) | (rw [subM_pos (by omega)]; omega) | (rw [subM_neg (by omega)]))).mono ?_
          rintro e w2 ⟨rfl, hb2⟩
          go_wp2
          go_roundw
          case rel => exact ⟨k + 1, by omega, by go_num, m + n, by have h1 := HM.out; have h2 := HT.out; have h3 := HN.out; (try simp only at h2); omega, by omega, by go_num, hb.trans (hb2.mono hb.size)⟩
          case measure => simp [intOf]; omega
        · go_wp2_with fail
          refine (szItem_any xs[k] _ p _ (by omega) (by omega) _ gz0 (gs1.later hitGood hb) (-1) (by rw [← HN.out]; first | (rw [subM_pos (by omega)]; done) | (rw [subM_pos (by omega)]; omega) | (rw [subM_neg (by omega)]))).mono ?_
          rintro e w2 ⟨rfl, hb2⟩
          go_wp2
          go_ret
          exact ⟨ret_int (by rw [HR.out, subM_neg (by have h1 := HM.out; have h2 := HT.out; have h3 := HN.out; have h4 := HL.out; (try simp only at h2); omega)]), hb.trans (hb2.mono hb.size)⟩
      · go_wp2
        go_ret
        have e : k = xs.length := by omega
        subst e
        have h1 := HM.out
        rw [List.take_length] at h1
        exact ⟨ret_int (by rw [HR.out, subM_pos (by omega)]; omega), hb⟩
  · go_enter Try.func43, Try.ntmps43
    go_wp2
    go_ret
    exact ⟨ret_int (by rw [HR.out, subM_neg (by omega)]), Below.refl _ _⟩
set_option maxHeartbeats 800000 in
theorem toItem_any (x : DItem) (v1 : Value) (p : Blk) (w : World) (hz0 : x.1.size ≤ 9223372036854775807) (h1 : SRep 2 HitC w v1 x.2 p) (hs : szDItem x ≤ 1048576) :
    Calls Try.prog 61 #[.agg #[.string x.1, v1]] w (RetO ItemO x w) := by
  simp only [szDItem] at hs
  have H1 := Lib.hid h1
  clear h1
  go_enter Try.func61, Try.ntmps61
  go_wp2_with fail
  refine (toHitS_any _ x.2 p _ (H1.out.later hitGood ?hx) (by omega)).mono ?_
  case hx => go_grown
  rintro e wc0 ⟨r1, rfl, own1, hb0⟩
  obtain ⟨ra1, rc1, re1⟩ := own1.shape
  subst re1
  have hB0 : Below w.heap.size w wc0 := below_tr hb0 (by go_grown)
  have hS0 := hb0.size
  obtain ⟨hcell0, hfroz0⟩ := bcell hb0
  simp only [World.size_alloc, World.size_setCell, World.size_drew] at hS0
  have ya0_0 : wc0.cell? ⟨w.heap.size, 0, none⟩ = some (.string x.1) := by rw [hcell0 _ _ (by go_size)]; go_simp
  have yr0_0 : wc0.cell? ⟨w.heap.size + 1, 0, none⟩ = some (.string ⟨#[]⟩) := by rw [hcell0 _ _ (by go_size)]; go_simp
  have yo0_0 : wc0.cell? ⟨w.heap.size + 1 + 1, 0, none⟩ = some (.string x.1) := by rw [hcell0 _ _ (by go_size)]; go_simp
  have ya0_1 : wc0.cell? ⟨w.heap.size, 1, none⟩ = some (v1) := by rw [hcell0 _ _ (by go_size)]; go_simp
  have yr0_1 : wc0.cell? ⟨w.heap.size + 1, 1, none⟩ = some (.slice none 0 0) := by rw [hcell0 _ _ (by go_size)]; go_simp
  have yo0_1 : wc0.cell? ⟨w.heap.size + 1 + 1, 1, none⟩ = some (.slice none 0 0) := by rw [hcell0 _ _ (by go_size)]; go_simp
  have fr0 : ∀ j, wc0.frozen? ⟨w.heap.size + 1, j, none⟩ = false := fun j => by rw [hfroz0 _ _ (by go_size)]; go_simp
  have fo0 : ∀ j, wc0.frozen? ⟨w.heap.size + 1 + 1, j, none⟩ = false := fun j => by rw [hfroz0 _ _ (by go_size)]; go_simp
  clear hcell0 hfroz0
  go_wp2
  try simp only [Exit.inBlock, Exit.then]
  refine bodyPost_ret (v := .agg #[.string x.1, .slice ra1 x.2.length rc1]) (by simp [results, Try.results61, go_sem, yr0_0, yr0_1, yo0_0, yo0_1, fr0, fo0]) rfl ?_
  refine ⟨_, rfl, ?_, by go_grown⟩
  have hV : Upd (fun k => k < w.heap.size + 3) wc0 (((wc0.setCell ⟨w.heap.size + 1 + 1, 1, none⟩ (.slice ra1 x.2.length rc1)).setCell ⟨w.heap.size + 1, 0, none⟩ (.string x.1)).setCell ⟨w.heap.size + 1, 1, none⟩ (.slice ra1 x.2.length rc1)) := (by repeat' (first | exact Upd.refl _ _ | refine Upd.setCell ?_ (Or.inl ?_) _ | (dsimp only; omega) | (simp; done) | (simp; omega)))
  exact ⟨_, rfl, hz0, ((own1.bound hitGood).upd hitGood hV (fun k hk => by have h1 := hk.1; simp only [World.size_alloc, World.size_setCell, World.size_drew] at h1; omega)).mono (fun k hk => by have h1 := hk.1; have h2 := hk.2; simp only [World.size_alloc, World.size_setCell, World.size_drew] at h1; omega)⟩
theorem Try.info46 : (Try.prog.info? 46).map (fun i => (i.zero, i.size, i.bytes)) = some (some (.agg #[.string ⟨#[]⟩, .slice none 0 0]), 2, 40) := by kernel_rfl
set_option maxHeartbeats 800000 in
theorem toItemS_any (v : Value) (xs : List DItem) (p : Blk) (w : World) (h : SRep 2 ItemC w v xs p) (hs : (szL (fun x : DItem => szDItem x) xs) ≤ 1048576) :
    Calls Try.prog 45 #[v] w (RetS 2 ItemO xs w) := by
  have hs1 : xs.length ≤ 1048576 := Nat.le_trans (szL_len _ _) hs
  obtain ⟨a, c, rfl, hl, hat⟩ := h.opn
  obtain ⟨i0, hi, hz0, hz1, hz2⟩ := info_parts Try.info46
  clear h
  go_enter Try.func45, Try.ntmps45
  go_wp2_with (at_make; refine wpList_make_full _ rfl (.tmp 6) (.tmp 6) 22 rfl w.heap.size _ i0 _ 2 Try.underlying22 hi hz0 hz1 _ _ _ _ xs.length rfl rfl rfl rfl (by rw [hz2]; omega) (by unfold maxLen; omega) (by simp) ?_; intro w1 hown1 hgrow1)
  have hz : SOwn 2 ItemO w1 (.slice (some ⟨w.heap.size, 0, none⟩) xs.length xs.length) (List.replicate xs.length ((⟨#[]⟩, []) : DItem)) (fun k => w.heap.size ≤ k) :=
    own_zeros (z := [.string ⟨#[]⟩, .slice none 0 0]) (by have e := madeCells_replicate #[.string ⟨#[]⟩, .slice none 0 0] xs.length (by decide); rw [← e]; exact hown1) rfl ⟨.slice none 0 0, rfl, (by decide), SOwn.nil _ _ _ _⟩ hl.1
  have hb1 : Below w.heap.size w w1 := (Below.refl _ _).grown hgrow1 (Nat.le_refl _) (by simp)
  clear hown1 hgrow1
  go_loopw [4] (fun i wr => ∃ k : Nat, k ≤ xs.length ∧ i = .int .i64 k ∧ Below w.heap.size w wr ∧ SOwn 2 ItemO wr (.slice (some ⟨w.heap.size, 0, none⟩) xs.length xs.length) (xs.take k ++ List.replicate (xs.length - k) ((⟨#[]⟩, []) : DItem)) (fun k => w.heap.size ≤ k)) (fun i _ => xs.length - (intOf i).toNat)
  case atStart => exact ⟨0, Nat.zero_le _, rfl, hb1, by simpa using hz⟩
  case round =>
    obtain ⟨k, hk, rfl, hb, ho⟩ := hrel
    clear hz hb1
    by_cases hlt : k < xs.length
    · obtain ⟨b1, o1, cs1, rfl, _, _, hc1, ⟨gx1, rfl, gz0, gs1⟩⟩ := hat k hlt
      have x0 : wr.cell? ⟨b1, o1 + k * 2, none⟩ = some (.string xs[k].1) := cell_later hb (hc1 0 _ rfl)
      have x1 : wr.cell? ⟨b1, o1 + k * 2 + 1, none⟩ = some (gx1) := cell_later hb (hc1 1 _ rfl)
      have hsk := szL_at (fun x : DItem => szDItem x) xs k hlt
      (try simp only at hsk)
      have hk2 : k < (xs.take k ++ List.replicate (xs.length - k) ((⟨#[]⟩, []) : DItem)).length := by simp; omega
      obtain ⟨_, ol, of, ds, dn, dc, _⟩ := ho.there itemGoodO k hk2
      obtain ⟨d0, d1, y0, y1⟩ := cells2_of dn dc
      rw [Nat.zero_add] at y0 y1
      have HO := Lib.hid ho
      clear hat hc1 dc ho
      go_wp2_with fail
      refine (toItem_any xs[k] _ p _ gz0 (gs1.later hitGood hb) (by omega)).mono ?_
      rintro e w2 ⟨cs, rfl, ⟨nv1, rfl, nz0, ns1⟩, hb2⟩
      obtain ⟨ra1, rc1, re1⟩ := ns1.shape
      subst re1
      have y0' := cell_later hb2 y0
      have y1' := cell_later hb2 y1
      have of' : ∀ j, w2.frozen? ⟨w.heap.size, j, none⟩ = false := (fun j => by rw [(bcell hb2).2 _ j ol]; exact of j)
      have hn := HO.out.put itemGoodO hb2 k hk2 (cs := [.string xs[k].1, .slice ra1 xs[k].2.length rc1]) (x := xs[k]) (r := fun k => wr.heap.size ≤ k) ⟨_, rfl, nz0, ns1⟩ (fun _ h => ⟨h, Nat.le_trans hb.size h⟩)
      rw [set_take_replicate xs _ k _ hlt rfl, Nat.zero_add] at hn
      have HN := Lib.hid hn
      clear hn
      go_wp2
      go_roundw
      case rel => exact ⟨k + 1, by omega, by go_num, ((hb.trans (hb2.mono hb.size)).setCell (by simp) _).setCell (by simp) _, HN.out⟩
      case measure => simp [intOf]; omega
    · go_wp2
      go_ret
      have e : k = xs.length := by omega
      subst e
      exact ⟨_, rfl, by simpa using ho, hb⟩
set_option maxHeartbeats 1000000 in
theorem markItemS_any (v : Value) (xs : List DItem) (p : Blk) (k0 : Nat) (ki : Int) (hki : ki = (k0 : Int)) (hk0 : k0 + cntL cntDItem xs ≤ 100000000) (w : World) (h : SOwn 2 ItemO w v xs p) :
    Calls Try.prog 38 #[v, .int .i64 ki] w (RetM 2 ItemO v (mkL mkDItem cntDItem xs k0) p (k0 + cntL cntDItem xs) w) := by
  subst hki
  obtain ⟨a, c, rfl, hl, hat⟩ := h.elt itemGoodO
  go_enter Try.func38, Try.ntmps38
  go_wp2
  go_loopw [1, 5] (fun kv i wr => ∃ j : Nat, j ≤ xs.length ∧ i = .int .i64 j ∧ kv = .int .i64 ((k0 + cntL cntDItem (xs.take j) : Nat) : Int) ∧ Upd p w wr ∧ SOwn 2 ItemO wr (.slice a xs.length c) (mkTo mkDItem cntDItem xs k0 j) p) (fun _ i _ => xs.length - (intOf i).toNat)
  case atStart => exact ⟨0, Nat.zero_le _, rfl, rfl, Upd.refl _ _, by rw [mkTo_zero]; exact h⟩
  case round =>
    obtain ⟨j, hj, rfl, rfl, hu, ho⟩ := hrel
    clear h hat
    by_cases hlt : j < xs.length
    · obtain ⟨b, o, cs, r, rfl, hE, hc, hC⟩ := ho.el itemGoodO j (by rw [mkTo_len]; exact hlt) xs[j] (mkTo_at _ _ _ _ _ hlt _)
      obtain ⟨gx1, rfl, gz0, own1⟩ := hC
      have y0_0 : wr.cell? ⟨b, o + j * 2, none⟩ = some (.string xs[j].1) := hc 0 _ rfl
      have y0_1 : wr.cell? ⟨b, o + j * 2 + 1, none⟩ = some (gx1) := hc 1 _ rfl
      have hf0 := hE.nofreeze
      have hlt0 := hE.lt
      have hnb := hE.nb
      have hcnt := cntL_at_le cntDItem xs j hlt
      have HC := Lib.hid (cntL_take cntDItem xs j hlt)
      have hkk : k0 + cntL cntDItem (xs.take j) + cntL cntDHit xs[j].2 + 1 ≤ 100000000 := by simp only [cntDItem] at hcnt; omega
      have e0 : k0 + cntL cntDItem (xs.take (j + 1)) = k0 + cntL cntDItem (xs.take j) + cntL cntDHit xs[j].2 + 1 := by rw [HC.out]; simp only [cntDItem]; omega
      have E0 := Lib.hid e0
      clear hc hcnt e0
      have HO := Lib.hid ho
      clear ho
      have OW1 := Lib.hid own1
      clear own1
      have P0 : Prog b (o + j * 2) (o + j * 2 + 2) (fun _ => False) wr wr := Prog.refl _ _ _ _ _
      go_wp2_with fail
      refine (markText_any ((k0 + cntL cntDItem (xs.take j))) _ (by omega) (by omega) _).mono ?_
      rintro e w1 ⟨rfl, hb1⟩
      have P1 := (P0).below hb1 hlt0
      have y1_0 : w1.cell? ⟨b, o + j * 2, none⟩ = some (.string xs[j].1) := cell_later hb1 (by go_simp)
      have y1_1 : w1.cell? ⟨b, o + j * 2 + 1, none⟩ = some (gx1) := cell_later hb1 (by go_simp)
      have hf1 : ∀ j, w1.frozen? ⟨b, j, none⟩ = false := fun j => (P1.frozen j).trans (hE.nofreeze j)
      go_wp2_with fail
      have P2 := (P1.setCell (o + j * 2) (by omega) (.string (mText ((k0 + cntL cntDItem (xs.take j))))))
      refine (markHitS_any _ xs[j].2 r ((k0 + cntL cntDItem (xs.take j)) + 1) _ (by omega) (by omega) _ (OW1.out.prog hitGood P2 hnb (fun _ hk _ => hk))).mono ?_
      rintro e w2 ⟨rfl, hu2, own1⟩
      have P3 := (P2.widen (q' := fun k => r k) (fun k hk => hk.elim)).written hu2 hlt0 (fun k hk => hk) hnb
      have y2_0 : w2.cell? ⟨b, o + j * 2, none⟩ = some (.string (mText ((k0 + cntL cntDItem (xs.take j))))) := upd_cell hu2 hnb (by go_simp)
      have y2_1 : w2.cell? ⟨b, o + j * 2 + 1, none⟩ = some (gx1) := upd_cell hu2 hnb (by go_simp)
      have hf2 : ∀ j, w2.frozen? ⟨b, j, none⟩ = false := fun j => (P3.frozen j).trans (hE.nofreeze j)
      have OM1 := Lib.hid own1
      clear own1
      go_wp2
      go_roundw
      case rel =>
        have PF := P3
        refine ⟨j + 1, by omega, by go_num, by rw [E0.out]; go_num, hu.trans (PF.upd.mono (fun k hk _ => hk.elim (fun e => e ▸ hE.pb) (fun h => (hE.sub k h).1))), ?_⟩
        rw [← mkTo_step _ _ _ _ _ hlt]
        refine hE.put _ [.string (mText ((k0 + cntL cntDItem (xs.take j)))), gx1] _ r (PF.widen (fun k h => h)) (look2 (by go_simp) (by go_simp)) ⟨_, rfl, (by have := mText_size ((k0 + cntL cntDItem (xs.take j))); simp only [mkDItem]; omega), OM1.out⟩ (fun k hk => ⟨(hE.sub k hk).1, .inl hk⟩)
      case measure => simp [intOf]; omega
    · go_wp2
      go_ret
      have e : j = xs.length := by omega
      subst e
      rw [List.take_length]
      rw [mkTo_all] at ho
      exact ⟨rfl, hu, ho⟩
set_option maxHeartbeats 1000000 in
theorem heldItemS_any (v : Value) (xs : List DItem) (p : Blk) (k0 : Nat) (ki : Int) (hki : ki = (k0 : Int)) (hk0 : k0 + cntL cntDItem xs ≤ 100000000) (w : World) (h : SRep 2 ItemC w v (mkL mkDItem cntDItem xs k0) p) :
    Calls Try.prog 39 #[v, .int .i64 ki] w fun e w' => e = .returned (.int .i64 ((k0 + cntL cntDItem xs : Nat) : Int)) ∧ Below w.heap.size w w' := by
  subst hki
  obtain ⟨a, c, ev, hl, hat⟩ := h.opn
  rw [mkL_len] at ev hl
  subst ev
  clear h
  go_enter Try.func39, Try.ntmps39
  go_wp2
  go_loopw [1, 5] (fun kv i wr => ∃ j : Nat, j ≤ xs.length ∧ i = .int .i64 j ∧ kv = .int .i64 ((k0 + cntL cntDItem (xs.take j) : Nat) : Int) ∧ Below w.heap.size w wr) (fun _ i _ => xs.length - (intOf i).toNat)
  case atStart => exact ⟨0, Nat.zero_le _, rfl, rfl, Below.refl _ _⟩
  case round =>
    obtain ⟨j, hj, rfl, rfl, hb⟩ := hrel
    by_cases hlt : j < xs.length
    · obtain ⟨b, o, cs, rfl, _, _, hc, hC⟩ := hat j (by rw [mkL_len]; exact hlt)
      rw [mkL_at _ _ _ _ _ hlt] at hC
      obtain ⟨gx1, rfl, gz0, own1⟩ := hC
      have y0_0 : wr.cell? ⟨b, o + j * 2, none⟩ = some (.string (mText ((k0 + cntL cntDItem (xs.take j))))) := cell_later hb (hc 0 _ rfl)
      have y0_1 : wr.cell? ⟨b, o + j * 2 + 1, none⟩ = some (gx1) := cell_later hb (hc 1 _ rfl)
      have hcnt := cntL_at_le cntDItem xs j hlt
      have HC := Lib.hid (cntL_take cntDItem xs j hlt)
      have hkk : k0 + cntL cntDItem (xs.take j) + cntL cntDHit xs[j].2 + 1 ≤ 100000000 := by simp only [cntDItem] at hcnt; omega
      have e0 : k0 + cntL cntDItem (xs.take (j + 1)) = k0 + cntL cntDItem (xs.take j) + cntL cntDHit xs[j].2 + 1 := by rw [HC.out]; simp only [cntDItem]; omega
      have E0 := Lib.hid e0
      clear hc hcnt e0 hat
      have OW1 := Lib.hid own1
      clear own1
      clear gz0
      have hB0 := hb
      go_wp2
      go_region_held3 (fun w' => w'.cell? ⟨b, o + j * 2, none⟩ = some (.string (mText ((k0 + cntL cntDItem (xs.take j)))))) (first | exact y0_0 | exact cell_later hb1 y0_0) (first | (go_at_call 59; refine (markText_any ((k0 + cntL cntDItem (xs.take j))) _ (by omega) (by omega) _).mono ?_; rintro e w1 ⟨rfl, hb1⟩))
      have hB1 := below_trans' hB0 hb1
      have y1_0 : w1.cell? ⟨b, o + j * 2, none⟩ = some (.string (mText ((k0 + cntL cntDItem (xs.take j))))) := cell_later hb1 y0_0
      have y1_1 : w1.cell? ⟨b, o + j * 2 + 1, none⟩ = some (gx1) := cell_later hb1 y0_1
      go_wp2_with fail
      refine (heldHitS_any _ xs[j].2 p ((k0 + cntL cntDItem (xs.take j)) + 1) _ (by omega) (by omega) _ (OW1.out.later hitGood hB1)).mono ?_
      rintro e w2 ⟨rfl, hb2⟩
      have hB2 := below_tr hb2 hB1
      have y2_0 : w2.cell? ⟨b, o + j * 2, none⟩ = some (.string (mText ((k0 + cntL cntDItem (xs.take j))))) := cell_later hb2 y1_0
      have y2_1 : w2.cell? ⟨b, o + j * 2 + 1, none⟩ = some (gx1) := cell_later hb2 y1_1
      go_wp2
      go_roundw
      case rel => exact ⟨j + 1, by omega, by go_num, by rw [E0.out]; go_num, hB2⟩
      case measure => simp [intOf]; omega
    · go_wp2
      go_ret
      have e : j = xs.length := by omega
      subst e
      rw [List.take_length]
      exact ⟨rfl, hb⟩
end Go.Proofs.Ythodbhjnfeahhaa
