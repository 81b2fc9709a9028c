/- Hit: how it lies in memory, and the laws' own functions over it. -/
import Derived.Test.YthodbhjnfeahhaaFamBase
import Derived.Test.YthodbhjnfeahhaaMarkText
set_option linter.unusedSimpArgs false
set_option linter.unusedVariables false
namespace Go.Proofs.Ythodbhjnfeahhaa
open Go.RowKit
abbrev DHit := Int × Int
def HitC : CRep DHit := fun _ cs x _ => cs = [.int .i64 x.1, .int .i64 x.2]
theorem hitGood : Good 2 HitC := by
  refine ⟨?_, ?_, ?_, ?_, ?_⟩
  · rintro w cs x p rfl; rfl
  · rintro w cs x p rfl u hu; simp at hu; rcases hu with rfl | rfl
    · exact rfl
    · exact rfl
  · rintro w w' cs x p rfl hs; exact rfl
  · rintro w cs x p q rfl hs; exact rfl
  · rintro w cs x p rfl; exact rfl
theorem hitLeaf : Leaf HitC := ⟨by rintro w cs x p rfl w' q; exact rfl⟩
def mkDHit (_ : DHit) (k : Nat) : DHit := (((k : Nat) : Int), ((k + 1 : Nat) : Int))
def cntDHit (_ : DHit) : Nat := 2
set_option maxHeartbeats 400000 in
theorem readHit {H : Type} {enc : TypeId × Value → H} {w : World} {spare : Nat → Bool} {held : Bool} {fuel : Nat} {cs : List Value} {x : DataW H × List MemPlace} (h : DataW.trod enc Try.prog w 0 spare held fuel 84 cs = some x) : ∃ d : DHit, HitC w cs d (fun _ => True) := by
  obtain ⟨ys, n, _, _, hl, hn, hf⟩ := DataW.trod_struct Try.underlying84 h
  rw [show Try.prog.cellsOf 84 = 2 from by kernel_rfl] at hl
  obtain ⟨c0, c1, rfl⟩ := len2 hl
  have f0 := hf 0 _ rfl
  rw [List.getElem?_eq_getElem (by rw [hn]; decide)] at f0
  obtain ⟨y0, g0⟩ : ∃ y, DataW.trod enc Try.prog w 0 spare held n 3 [c0] = some y := ⟨_, by simpa [show Try.prog.cellsOf 3 = 1 from by kernel_rfl] using f0⟩
  obtain ⟨x0, e0, _, _⟩ := DataW.trod_int Try.underlying3 g0
  simp only [List.cons.injEq, and_true] at e0
  subst e0
  have f1 := hf 1 _ rfl
  rw [List.getElem?_eq_getElem (by rw [hn]; decide)] at f1
  obtain ⟨y1, g1⟩ : ∃ y, DataW.trod enc Try.prog w 0 spare held n 3 [c1] = some y := ⟨_, by simpa [show Try.prog.cellsOf 3 = 1 from by kernel_rfl] using f1⟩
  obtain ⟨x1, e1, _, _⟩ := DataW.trod_int Try.underlying3 g1
  simp only [List.cons.injEq, and_true] at e1
  subst e1
  exact ⟨(x0, x1), rfl⟩
set_option maxHeartbeats 800000 in
theorem eqHit_any (x y : DHit) (w : World) (r : Bool) (hr : r = decide (x = y)) :
    Calls Try.prog 52 #[.agg #[.int .i64 x.1, .int .i64 x.2], .agg #[.int .i64 y.1, .int .i64 y.2]] w fun e w' => e = .returned (.bool r) ∧ Below w.heap.size w w' := by
  obtain ⟨x0, x1⟩ := x
  obtain ⟨y0, y1⟩ := y
  have HR := Lib.hid hr
  clear hr
  by_cases e0 : x0 = y0
  · have d0 : (x0 != y0) = false := by simp [e0]
    have E0 := Lib.hid e0
    clear e0
    by_cases e1 : x1 = y1
    · have d1 : (x1 != y1) = false := by simp [e1]
      have E1 := Lib.hid e1
      clear e1
      go_enter Try.func52, Try.ntmps52
      go_wp2
      go_ret
      exact ⟨by rw [HR.out]; simp [E0.out, E1.out], by go_grown⟩
    · have d1 : (x1 != y1) = true := by simp [e1]
      have E1 := Lib.hid e1
      clear e1
      go_enter Try.func52, Try.ntmps52
      go_wp2
      go_ret
      exact ⟨by rw [HR.out]; simp [E0.out, E1.out], by go_grown⟩
  · have d0 : (x0 != y0) = true := by simp [e0]
    have E0 := Lib.hid e0
    clear e0
    go_enter Try.func52, Try.ntmps52
    go_wp2
    go_ret
    exact ⟨by rw [HR.out]; simp [E0.out], by go_grown⟩
set_option maxHeartbeats 800000 in
theorem eqHitS_any (v1 v2 : Value) (xs ys : List DHit) (p q : Blk) (w : World) (h1 : SRep 2 HitC w v1 xs p) (h2 : SRep 2 HitC w v2 ys q) (r : Bool) (hr : r = decide (xs = ys)) :
    Calls Try.prog 26 #[v1, v2] w fun e w' => e = .returned (.bool r) ∧ Below w.heap.size w w' := by
  obtain ⟨a1, c1, rfl, l1, at1⟩ := h1.opn
  obtain ⟨a2, c2, rfl, l2, at2⟩ := h2.opn
  have HR := Lib.hid hr
  clear hr h1 h2
  by_cases hn : xs.length = ys.length
  · have HN := Lib.hid hn
    have hn1 : xs.length ≤ ys.length := by omega
    have hn2 : ys.length ≤ xs.length := by omega
    have hnb : ((xs.length : Int) != (ys.length : Int)) = false := by simp [hn]
    clear hn
    go_enter Try.func26, Try.ntmps26
    go_wp2
    go_loopw [5] (fun i wr => ∃ k : Nat, k ≤ xs.length ∧ i = .int .i64 k ∧ Below w.heap.size w wr ∧ ∀ i (h1 : i < xs.length) (h2 : i < ys.length), i < k → xs[i] = ys[i]) (fun i _ => xs.length - (intOf i).toNat)
    case atStart => exact ⟨0, Nat.zero_le _, rfl, Below.refl _ _, fun i _ _ h => by omega⟩
    case round =>
      obtain ⟨k, hk, rfl, hb, hq⟩ := hrel
      have HQ := Lib.hid hq
      clear hq
      by_cases hlt : k < xs.length
      · have hlt2 : k < ys.length := by omega
        obtain ⟨b1, o1, cs1, rfl, _, _, hc1, rfl⟩ := at1 k hlt
        obtain ⟨b2, o2, cs2, rfl, _, _, hc2, rfl⟩ := at2 k hlt2
        have x0 : wr.cell? ⟨b1, o1 + k * 2, none⟩ = some (.int .i64 xs[k].1) := cell_later hb (hc1 0 _ rfl)
        have x1 : wr.cell? ⟨b1, o1 + k * 2 + 1, none⟩ = some (.int .i64 xs[k].2) := cell_later hb (hc1 1 _ rfl)
        have y0 : wr.cell? ⟨b2, o2 + k * 2, none⟩ = some (.int .i64 ys[k].1) := cell_later hb (hc2 0 _ rfl)
        have y1 : wr.cell? ⟨b2, o2 + k * 2 + 1, none⟩ = some (.int .i64 ys[k].2) := cell_later hb (hc2 1 _ rfl)
        clear at1 at2 hc1 hc2
        by_cases e : xs[k] = ys[k]
        · have HE := Lib.hid e
          clear e
          go_wp2
          go_region_held3 (fun w' => w'.cell? ⟨b1, o1 + k * 2, none⟩ = some (.int .i64 xs[k].1) ∧ w'.cell? ⟨b1, o1 + k * 2 + 1, none⟩ = some (.int .i64 xs[k].2) ∧ w'.cell? ⟨b2, o2 + k * 2, none⟩ = some (.int .i64 ys[k].1) ∧ w'.cell? ⟨b2, o2 + k * 2 + 1, none⟩ = some (.int .i64 ys[k].2)) (first | exact ⟨x0, x1, y0, y1⟩ | exact ⟨cell_later hb2 x0, cell_later hb2 x1, cell_later hb2 y0, cell_later hb2 y1⟩) (first | (go_at_call 52; refine (eqHit_any xs[k] ys[k] _ true (by simp [HE.out])).mono ?_; rintro e w' ⟨rfl, hb2⟩))
          go_wp2
          go_roundw
          case rel => exact ⟨k + 1, by omega, by go_num, below_trans' hb hb2, fun i h1 h2 h3 => by
            rcases Nat.lt_or_ge i k with h | h
            · exact HQ.out i h1 h2 h
            · obtain rfl : i = k := by omega
              exact HE.out⟩
          case measure => simp [intOf]; omega
        · have HE := Lib.hid e
          clear e
          go_wp2
          go_region_held3 (fun w' => w'.cell? ⟨b1, o1 + k * 2, none⟩ = some (.int .i64 xs[k].1) ∧ w'.cell? ⟨b1, o1 + k * 2 + 1, none⟩ = some (.int .i64 xs[k].2) ∧ w'.cell? ⟨b2, o2 + k * 2, none⟩ = some (.int .i64 ys[k].1) ∧ w'.cell? ⟨b2, o2 + k * 2 + 1, none⟩ = some (.int .i64 ys[k].2)) (first | exact ⟨x0, x1, y0, y1⟩ | exact ⟨cell_later hb2 x0, cell_later hb2 x1, cell_later hb2 y0, cell_later hb2 y1⟩) (first | (go_at_call 52; refine (eqHit_any xs[k] ys[k] _ false (by simp [HE.out])).mono ?_; rintro e w' ⟨rfl, hb2⟩))
          go_wp2
          go_ret
          exact ⟨by rw [HR.out]; simp [list_ne_of hlt hlt2 HE.out], below_trans' hb hb2⟩
      · go_wp2
        go_ret
        exact ⟨by rw [HR.out]; simp [list_eq_of HN.out (fun i h1 h2 => HQ.out i h1 h2 (by omega))], hb⟩
  · have hnb : ((xs.length : Int) != (ys.length : Int)) = true := by simp; omega
    go_enter Try.func26, Try.ntmps26
    go_wp2
    go_ret
    exact ⟨by rw [HR.out]; simp; intro h; subst h; exact hn rfl, Below.refl _ _⟩
set_option maxHeartbeats 800000 in
theorem szHitS_any (v : Value) (xs : List DHit) (p : Blk) (l : Int) (h0 : 0 ≤ l) (h1 : l ≤ 1048576) (w : World) (h : SRep 2 HitC w v xs p) (r : Int) (hr : r = subM l (xs.length)) :
    Calls Try.prog 33 #[v, .int .i64 l] w fun e w' => e = .returned (.int .i64 r) ∧ Below w.heap.size w w' := by
  obtain ⟨a, c, rfl, hl, hat⟩ := h.opn
  have HR := Lib.hid hr
  clear hr h
  by_cases c0 : (xs.length : Int) ≤ l
  · go_enter Try.func33, Try.ntmps33
    go_wp2
    go_ret
    exact ⟨ret_int (by rw [HR.out, subM_pos c0]), Below.refl _ _⟩
  · go_enter Try.func33, Try.ntmps33
    go_wp2
    go_ret
    exact ⟨ret_int (by rw [HR.out, subM_neg (by omega)]), Below.refl _ _⟩
set_option maxHeartbeats 800000 in
theorem toHit_any (x : DHit) (w : World) :
    Calls Try.prog 57 #[.agg #[.int .i64 x.1, .int .i64 x.2]] w (RetO HitC x w) := by
  go_enter Try.func57, Try.ntmps57
  go_wp2
  go_returns
  exact ⟨_, rfl, rfl, by go_grown⟩
theorem Try.info78 : (Try.prog.info? 78).map (fun i => (i.zero, i.size, i.bytes)) = some (some (.agg #[.int .i64 0, .int .i64 0]), 2, 16) := by kernel_rfl
set_option maxHeartbeats 800000 in
theorem toHitS_any (v : Value) (xs : List DHit) (p : Blk) (w : World) (h : SRep 2 HitC w v xs p) (hs : (xs.length) ≤ 1048576) :
    Calls Try.prog 34 #[v] w (RetS 2 HitC xs w) := by
  have hs1 : xs.length ≤ 1048576 := hs
  obtain ⟨a, c, rfl, hl, hat⟩ := h.opn
  obtain ⟨i0, hi, hz0, hz1, hz2⟩ := info_parts Try.info78
  clear h
  go_enter Try.func34, Try.ntmps34
  go_wp2_with (at_make; refine wpList_make_full _ rfl (.tmp 6) (.tmp 6) 41 rfl w.heap.size _ i0 _ 2 Try.underlying41 hi hz0 hz1 _ _ _ _ xs.length rfl rfl rfl rfl (by rw [hz2]; omega) (by unfold maxLen; omega) (by simp) ?_; intro w1 hown1 hgrow1)
  have hz : SOwn 2 HitC w1 (.slice (some ⟨w.heap.size, 0, none⟩) xs.length xs.length) (List.replicate xs.length ((0, 0) : DHit)) (fun k => w.heap.size ≤ k) :=
    own_zeros (z := [.int .i64 0, .int .i64 0]) (by have e := madeCells_replicate #[.int .i64 0, .int .i64 0] xs.length (by decide); rw [← e]; exact hown1) rfl rfl hl.1
  have hb1 : Below w.heap.size w w1 := (Below.refl _ _).grown hgrow1 (Nat.le_refl _) (by simp)
  clear hown1 hgrow1
  go_loopw [4] (fun i wr => ∃ k : Nat, k ≤ xs.length ∧ i = .int .i64 k ∧ Below w.heap.size w wr ∧ SOwn 2 HitC wr (.slice (some ⟨w.heap.size, 0, none⟩) xs.length xs.length) (xs.take k ++ List.replicate (xs.length - k) ((0, 0) : DHit)) (fun k => w.heap.size ≤ k)) (fun i _ => xs.length - (intOf i).toNat)
  case atStart => exact ⟨0, Nat.zero_le _, rfl, hb1, by simpa using hz⟩
  case round =>
    obtain ⟨k, hk, rfl, hb, ho⟩ := hrel
    clear hz hb1
    by_cases hlt : k < xs.length
    · obtain ⟨b1, o1, cs1, rfl, _, _, hc1, rfl⟩ := hat k hlt
      have x0 : wr.cell? ⟨b1, o1 + k * 2, none⟩ = some (.int .i64 xs[k].1) := cell_later hb (hc1 0 _ rfl)
      have x1 : wr.cell? ⟨b1, o1 + k * 2 + 1, none⟩ = some (.int .i64 xs[k].2) := cell_later hb (hc1 1 _ rfl)
      have hk2 : k < (xs.take k ++ List.replicate (xs.length - k) ((0, 0) : DHit)).length := by simp; omega
      obtain ⟨_, ol, of, ds, dn, dc, _⟩ := ho.there hitGood k hk2
      obtain ⟨d0, d1, y0, y1⟩ := cells2_of dn dc
      rw [Nat.zero_add] at y0 y1
      have HO := Lib.hid ho
      clear hat hc1 dc ho
      go_wp2_with fail
      refine (toHit_any xs[k] _).mono ?_
      rintro e w2 ⟨cs, rfl, rfl, hb2⟩
      have y0' := cell_later hb2 y0
      have y1' := cell_later hb2 y1
      have of' : ∀ j, w2.frozen? ⟨w.heap.size, j, none⟩ = false := (fun j => by rw [(bcell hb2).2 _ j ol]; exact of j)
      have hn := HO.out.put hitGood hb2 k hk2 (cs := [.int .i64 xs[k].1, .int .i64 xs[k].2]) (x := xs[k]) (r := fun _ => False) rfl (fun _ h => h.elim)
      rw [set_take_replicate xs _ k _ hlt rfl, Nat.zero_add] at hn
      have HN := Lib.hid hn
      clear hn
      go_wp2
      go_roundw
      case rel => exact ⟨k + 1, by omega, by go_num, ((hb.trans (hb2.mono hb.size)).setCell (by simp) _).setCell (by simp) _, HN.out⟩
      case measure => simp [intOf]; omega
    · go_wp2
      go_ret
      have e : k = xs.length := by omega
      subst e
      exact ⟨_, rfl, by simpa using ho, hb⟩
set_option maxHeartbeats 1000000 in
theorem markHitS_any (v : Value) (xs : List DHit) (p : Blk) (k0 : Nat) (ki : Int) (hki : ki = (k0 : Int)) (hk0 : k0 + cntL cntDHit xs ≤ 100000000) (w : World) (h : SOwn 2 HitC w v xs p) :
    Calls Try.prog 27 #[v, .int .i64 ki] w (RetM 2 HitC v (mkL mkDHit cntDHit xs k0) p (k0 + cntL cntDHit xs) w) := by
  subst hki
  obtain ⟨a, c, rfl, hl, hat⟩ := h.elt hitGood
  go_enter Try.func27, Try.ntmps27
  go_wp2
  go_loopw [1, 5] (fun kv i wr => ∃ j : Nat, j ≤ xs.length ∧ i = .int .i64 j ∧ kv = .int .i64 ((k0 + cntL cntDHit (xs.take j) : Nat) : Int) ∧ Upd p w wr ∧ SOwn 2 HitC wr (.slice a xs.length c) (mkTo mkDHit cntDHit xs k0 j) p) (fun _ i _ => xs.length - (intOf i).toNat)
  case atStart => exact ⟨0, Nat.zero_le _, rfl, rfl, Upd.refl _ _, by rw [mkTo_zero]; exact h⟩
  case round =>
    obtain ⟨j, hj, rfl, rfl, hu, ho⟩ := hrel
    clear h hat
    by_cases hlt : j < xs.length
    · obtain ⟨b, o, cs, r, rfl, hE, hc, hC⟩ := ho.el hitGood j (by rw [mkTo_len]; exact hlt) xs[j] (mkTo_at _ _ _ _ _ hlt _)
      obtain rfl : cs = [.int .i64 xs[j].1, .int .i64 xs[j].2] := hC
      have y0_0 : wr.cell? ⟨b, o + j * 2, none⟩ = some (.int .i64 xs[j].1) := hc 0 _ rfl
      have y0_1 : wr.cell? ⟨b, o + j * 2 + 1, none⟩ = some (.int .i64 xs[j].2) := hc 1 _ rfl
      have hf0 := hE.nofreeze
      have hlt0 := hE.lt
      have hnb := hE.nb
      have hcnt := cntL_at_le cntDHit xs j hlt
      have HC := Lib.hid (cntL_take cntDHit xs j hlt)
      have hkk : k0 + cntL cntDHit (xs.take j) + 2 ≤ 100000000 := by simp only [cntDHit] at hcnt; omega
      have e0 : k0 + cntL cntDHit (xs.take (j + 1)) = k0 + cntL cntDHit (xs.take j) + 2 := by rw [HC.out]; simp only [cntDHit]; omega
      have E0 := Lib.hid e0
      clear hc hcnt e0
      have HO := Lib.hid ho
      clear ho
      have P0 : Prog b (o + j * 2) (o + j * 2 + 2) (fun _ => False) wr wr := Prog.refl _ _ _ _ _
      go_wp2
      go_roundw
      case rel =>
        have PF := ((P0.setCell (o + j * 2) (by omega) (.int .i64 (((k0 + cntL cntDHit (xs.take j)) : Nat) : Int))).setCell (o + j * 2 + 1) (by omega) (.int .i64 (((k0 + cntL cntDHit (xs.take j)) + 1 : Nat) : Int)))
        refine ⟨j + 1, by omega, by go_num, by rw [E0.out]; go_num, hu.trans (PF.upd.mono (fun k hk _ => hk.elim (fun e => e ▸ hE.pb) (fun h => h.elim))), ?_⟩
        rw [← mkTo_step _ _ _ _ _ hlt]
        refine hE.put _ [.int .i64 (((k0 + cntL cntDHit (xs.take j)) : Nat) : Int), .int .i64 (((k0 + cntL cntDHit (xs.take j)) + 1 : Nat) : Int)] _ (fun _ => False) (PF.widen (fun _ h => h.elim)) (look2 (by go_simp) (by go_simp)) rfl (fun _ h => h.elim)
      case measure => simp [intOf]; omega
    · go_wp2
      go_ret
      have e : j = xs.length := by omega
      subst e
      rw [List.take_length]
      rw [mkTo_all] at ho
      exact ⟨rfl, hu, ho⟩
set_option maxHeartbeats 1000000 in
theorem heldHitS_any (v : Value) (xs : List DHit) (p : Blk) (k0 : Nat) (ki : Int) (hki : ki = (k0 : Int)) (hk0 : k0 + cntL cntDHit xs ≤ 100000000) (w : World) (h : SRep 2 HitC w v (mkL mkDHit cntDHit xs k0) p) :
    Calls Try.prog 28 #[v, .int .i64 ki] w fun e w' => e = .returned (.int .i64 ((k0 + cntL cntDHit xs : Nat) : Int)) ∧ Below w.heap.size w w' := by
  subst hki
  obtain ⟨a, c, ev, hl, hat⟩ := h.opn
  rw [mkL_len] at ev hl
  subst ev
  clear h
  go_enter Try.func28, Try.ntmps28
  go_wp2
  go_loopw [1, 5] (fun kv i wr => ∃ j : Nat, j ≤ xs.length ∧ i = .int .i64 j ∧ kv = .int .i64 ((k0 + cntL cntDHit (xs.take j) : Nat) : Int) ∧ Below w.heap.size w wr) (fun _ i _ => xs.length - (intOf i).toNat)
  case atStart => exact ⟨0, Nat.zero_le _, rfl, rfl, Below.refl _ _⟩
  case round =>
    obtain ⟨j, hj, rfl, rfl, hb⟩ := hrel
    by_cases hlt : j < xs.length
    · obtain ⟨b, o, cs, rfl, _, _, hc, hC⟩ := hat j (by rw [mkL_len]; exact hlt)
      rw [mkL_at _ _ _ _ _ hlt] at hC
      obtain rfl : cs = [.int .i64 (((k0 + cntL cntDHit (xs.take j)) : Nat) : Int), .int .i64 (((k0 + cntL cntDHit (xs.take j)) + 1 : Nat) : Int)] := hC
      have y0_0 : wr.cell? ⟨b, o + j * 2, none⟩ = some (.int .i64 (((k0 + cntL cntDHit (xs.take j)) : Nat) : Int)) := cell_later hb (hc 0 _ rfl)
      have y0_1 : wr.cell? ⟨b, o + j * 2 + 1, none⟩ = some (.int .i64 (((k0 + cntL cntDHit (xs.take j)) + 1 : Nat) : Int)) := cell_later hb (hc 1 _ rfl)
      have hcnt := cntL_at_le cntDHit xs j hlt
      have HC := Lib.hid (cntL_take cntDHit xs j hlt)
      have hkk : k0 + cntL cntDHit (xs.take j) + 2 ≤ 100000000 := by simp only [cntDHit] at hcnt; omega
      have e0 : k0 + cntL cntDHit (xs.take (j + 1)) = k0 + cntL cntDHit (xs.take j) + 2 := by rw [HC.out]; simp only [cntDHit]; omega
      have E0 := Lib.hid e0
      clear hc hcnt e0 hat
      have hB0 := hb
      go_wp2
      go_roundw
      case rel => exact ⟨j + 1, by omega, by go_num, by rw [E0.out]; go_num, hB0⟩
      case measure => simp [intOf]; omega
    · go_wp2
      go_ret
      have e : j = xs.length := by omega
      subst e
      rw [List.take_length]
      exact ⟨rfl, hb⟩
end Go.Proofs.Ythodbhjnfeahhaa
