/- A cache that is in order: the program's and the reference's look. -/
import Derived.Test.YthodbhjnfeahhaaL13Ok
import Derived.Test.YthodbhjnfeahhaaFamCache
set_option linter.unusedSimpArgs false
set_option linter.unusedVariables false
namespace Go.Proofs.Ythodbhjnfeahhaa
open Go.RowKit
/-- The place of the first item of a question. -/
def askAt (xs : List DItem) (ask : ByteArray) (r : Int) : Prop := (∃ i : Nat, ∃ h : i < xs.length, r = i ∧ xs[i].1 = ask ∧ ∀ j (h : j < xs.length), j < i → xs[j].1 ≠ ask) ∨ (r = -1 ∧ ∀ j (h : j < xs.length), xs[j].1 ≠ ask)
def RetAsk (xs : List DItem) (ask : ByteArray) (w : World) (e : Ending) (w' : World) : Prop := ∃ r : Int, askAt xs ask r ∧ e = .returned (.int .i64 r) ∧ Below w.heap.size w w'
set_option maxHeartbeats 400000 in
theorem find_any (m g : Int) (v : Value) (xs : List DItem) (p : Blk) (ask : ByteArray) (w : World) (h : SRep 2 ItemC w v xs p) :
    Calls Try.prog 42 #[.agg #[.int .i64 m, .int .i64 g, v], .string ask] w (RetAsk xs ask w) := by
  obtain ⟨a, c, rfl, hl, hat⟩ := h.opn
  clear h
  go_enter Try.func42, Try.ntmps42
  go_wp2
  go_loopw [10] (fun i wr => ∃ j : Nat, j ≤ xs.length ∧ i = .int .i64 j ∧ Below w.heap.size w wr ∧ Hid (∀ t (h : t < xs.length), t < j → xs[t].1 ≠ ask)) (fun i _ => xs.length - (intOf i).toNat)
  case atStart => exact ⟨0, Nat.zero_le _, rfl, by go_grown, fun t _ h => by omega⟩
  case round =>
    obtain ⟨j, hj, rfl, hb, HQ⟩ := hrel
    by_cases hlt : j < xs.length
    · obtain ⟨b, o, cs, rfl, _, _, hcc, hv1, rfl, z0, s1⟩ := hat j hlt
      obtain ⟨a1, c1, rfl⟩ := SRep.shape s1
      clear s1
      have y0 : wr.cell? ⟨b, o + j * 2, none⟩ = some (.string xs[j].1) := cell_later hb (hcc 0 _ rfl)
      have y1 : wr.cell? ⟨b, o + j * 2 + 1, none⟩ = some (.slice a1 xs[j].2.length c1) := cell_later hb (hcc 1 _ rfl)
      have hbs := hb.size
      clear hat hcc
      by_cases e : xs[j].1 = ask
      · have d := strEq_true e
        have E := Lib.hid e
        clear e
        go_wp2
        go_ret
        exact ⟨j, .inl ⟨j, hlt, rfl, E.out, HQ.out⟩, rfl, by go_grown⟩
      · have d := strEq_false e
        have E := Lib.hid e
        clear e
        go_wp2
        go_roundw
        case rel => exact ⟨j + 1, by omega, by go_num, by go_grown, fun t ht h => by
          rcases Nat.lt_or_ge t j with h1 | h1
          · exact HQ.out t ht h1
          · obtain rfl : t = j := by omega
            exact E.out⟩
        case measure => simp [intOf]; omega
    · clear hat
      go_wp2
      go_ret
      exact ⟨-1, .inr ⟨rfl, fun t ht => HQ.out t ht (by omega)⟩, rfl, hb⟩
/-- What is asked of item i among the others. -/
def ItemAt (xs : List DItem) (i : Nat) : Prop := ∀ hi : i < xs.length, xs[i].1 ≠ ByteArray.empty ∧ HitsOk xs[i].2 ∧ ∀ k (h : k < xs.length), k < i → xs[k].1 ≠ xs[i].1
/-- A cache that is in order. -/
def CacheOk (d : DCache) : Prop := (1 ≤ d.1 ∧ d.1 ≤ 5) ∧ (0 ≤ d.2.1 ∧ d.2.1 ≤ 999999999) ∧ (d.2.2.length : Int) ≤ d.1 ∧ ∀ i, ItemAt d.2.2 i
set_option maxHeartbeats 2000000 in
theorem implCacheOk_any (d : DCache) (v : Value) (p : Blk) (w : World) (h : SRep 2 ItemC w v d.2.2 p) (r : Bool) (hr : r = true ↔ CacheOk d) :
    Calls Try.prog 17 #[.agg #[.int .i64 d.1, .int .i64 d.2.1, v]] w fun e w' => e = .returned (.bool r) ∧ Below w.heap.size w w' := by
  obtain ⟨m, g, xs⟩ := d
  have h' := h
  obtain ⟨a, c, rfl, hl, hat⟩ := h'.opn
  clear h'
  have HR := Lib.hid hr
  have HH0 := Lib.hid h
  clear hr h
  go_enter Try.func17, Try.ntmps17
  by_cases e1 : 1 ≤ m ∧ m ≤ 5
  rotate_left
  · clear hat
    go_wp2_with fail
    refine (within_any _ _ _ false (by simp; omega) _).mono ?_
    rintro e w1 ⟨rfl, rfl⟩
    go_wp2
    go_ret
    exact ⟨ret_bool ((Bool.eq_false_iff.2 (fun hr => e1 (HR.out.1 hr).1)).symm), by go_grown⟩
  by_cases e2 : 0 ≤ g ∧ g ≤ 999999999
  rotate_left
  · clear hat
    go_wp2_with fail
    refine (within_any _ _ _ true (by simp; omega) _).mono ?_
    rintro e w1 ⟨rfl, rfl⟩
    go_wp2_with fail
    refine (within_any _ _ _ false (by simp; omega) _).mono ?_
    rintro e w1 ⟨rfl, rfl⟩
    go_wp2
    go_ret
    exact ⟨ret_bool ((Bool.eq_false_iff.2 (fun hr => e2 (HR.out.1 hr).2.1)).symm), by go_grown⟩
  have E1 := Lib.hid e1
  have E2 := Lib.hid e2
  by_cases e3 : (xs.length : Int) ≤ m
  rotate_left
  · clear hat
    have d3 : decide (m < (xs.length : Int)) = true := by simp; omega
    have E3 : Hid (¬ (xs.length : Int) ≤ m) := Lib.hid e3
    clear e3
    go_wp2_with fail
    refine (within_any _ _ _ true (by simp; omega) _).mono ?_
    rintro e w1 ⟨rfl, rfl⟩
    go_wp2_with fail
    refine (within_any _ _ _ true (by simp; omega) _).mono ?_
    rintro e w1 ⟨rfl, rfl⟩
    go_wp2
    go_ret
    exact ⟨ret_bool ((Bool.eq_false_iff.2 (fun hr => by have h1 := E3.out; have h2 : (xs.length : Int) ≤ m := (HR.out.1 hr).2.2.1; omega)).symm), by go_grown⟩
  have d3 : decide (m < (xs.length : Int)) = false := by simp; omega
  go_wp2_with fail
  refine (within_any _ _ _ true (by simp; omega) _).mono ?_
  rintro e w1 ⟨rfl, rfl⟩
  go_wp2_with fail
  refine (within_any _ _ _ true (by simp; omega) _).mono ?_
  rintro e w1 ⟨rfl, rfl⟩
  have E3 := Lib.hid e3
  clear e1 e2 e3
  go_wp2
  clear d3
  go_loopw [26] (fun i wr => ∃ j : Nat, j ≤ xs.length ∧ i = .int .i64 j ∧ Below w.heap.size w wr ∧ (wr.cell? ⟨w.heap.size, 0, none⟩ = some (.int .i64 m) ∧ wr.cell? ⟨w.heap.size, 1, none⟩ = some (.int .i64 g) ∧ wr.cell? ⟨w.heap.size, 2, none⟩ = some (.slice a xs.length c)) ∧ w.heap.size < wr.heap.size ∧ Hid (∀ t, t < j → ItemAt xs t)) (fun i _ => xs.length - (intOf i).toNat)
  case atStart => exact ⟨0, Nat.zero_le _, rfl, by go_grown, ⟨by go_simp, by go_simp, by go_simp⟩, by go_size, fun t h => by omega⟩
  case round =>
    obtain ⟨j, hj, rfl, hb, ⟨q0, q1, q2⟩, hlw, HQ⟩ := hrel
    by_cases hlt : j < xs.length
    · have HH := Lib.hid (HH0.out.later itemGood hb)
      obtain ⟨b, o, cs, rfl, _, _, hcc, hv1, rfl, z0, s1⟩ := hat j hlt
      obtain ⟨a1, c1, rfl⟩ := s1.shape
      have S1 := Lib.hid (s1.later hitGood hb)
      have y0 : wr.cell? ⟨b, o + j * 2, none⟩ = some (.string xs[j].1) := cell_later hb (hcc 0 _ rfl)
      have y1 : wr.cell? ⟨b, o + j * 2 + 1, none⟩ = some (.slice a1 xs[j].2.length c1) := cell_later hb (hcc 1 _ rfl)
      have hbs := hb.size
      clear hat hcc s1
      by_cases e1 : xs[j].1 = ByteArray.empty
      · have d1 := noText e1
        have E4 := Lib.hid e1
        clear e1
        go_wp2
        go_ret
        exact ⟨ret_bool ((Bool.eq_false_iff.2 (fun hr => ((HR.out.1 hr).2.2.2 j hlt).1 E4.out)).symm), by go_grown⟩
      have d1 := someText e1
      have d1' := someText' e1
      have E4 : Hid (¬ xs[j].1 = ByteArray.empty) := Lib.hid e1
      clear e1
      by_cases e2 : HitsOk xs[j].2
      rotate_left
      · have E5 := Lib.hid e2
        clear e2
        go_wp2_with fail
        refine (implHitsOk_any _ xs[j].2 p _ (S1.out.later hitGood (by go_grown)) false (by simp [E5.out])).mono ?_
        rintro e w1 ⟨rfl, hb1⟩
        go_wp2
        go_ret
        exact ⟨ret_bool ((Bool.eq_false_iff.2 (fun hr => E5.out ((HR.out.1 hr).2.2.2 j hlt).2.1)).symm), below_tr hb1 (by go_grown)⟩
      have E5 := Lib.hid e2
      clear e2
      go_wp2_with fail
      refine (implHitsOk_any _ xs[j].2 p _ (S1.out.later hitGood (by go_grown)) true (by simp [E5.out])).mono ?_
      rintro e w1 ⟨rfl, hb1⟩
      have x0 : w1.cell? ⟨w.heap.size, 0, none⟩ = some (.int .i64 m) := cell_later hb1 (by go_simp)
      have x1 : w1.cell? ⟨w.heap.size, 1, none⟩ = some (.int .i64 g) := cell_later hb1 (by go_simp)
      have x2 : w1.cell? ⟨w.heap.size, 2, none⟩ = some (.slice (some ⟨b, o, none⟩) xs.length c) := cell_later hb1 (by go_simp)
      have x3 : w1.cell? ⟨wr.heap.size, 0, none⟩ = some (.string xs[j].1) := cell_later hb1 (by go_simp)
      have hbb : Below w.heap.size w w1 := below_tr hb1 (by go_grown)
      have hw1 : wr.heap.size < w1.heap.size := lt_of_cell x3
      clear hb1 q0 q1 q2 y0 y1 hb
      go_wp2_with fail
      refine (find_any m g _ xs p xs[j].1 _ (HH0.out.later itemGood (by go_grown))).mono ?_
      rintro e w2 ⟨t, ht, rfl, hb2⟩
      have z0' : w2.cell? ⟨w.heap.size, 0, none⟩ = some (.int .i64 m) := cell_later hb2 x0
      have z1' : w2.cell? ⟨w.heap.size, 1, none⟩ = some (.int .i64 g) := cell_later hb2 x1
      have z2' : w2.cell? ⟨w.heap.size, 2, none⟩ = some (.slice (some ⟨b, o, none⟩) xs.length c) := cell_later hb2 x2
      have hbb2 : Below w.heap.size w w2 := below_tr hb2 hbb
      have hw2 : w.heap.size < w2.heap.size := lt_of_cell z0'
      have HT := Lib.hid ht
      clear ht hb2 hbb x0 x1 x2 x3
      by_cases e3 : t = (j : Int)
      · have d3 : (t != (j : Int)) = false := by simp [e3]
        have E6 := Lib.hid e3
        clear e3
        go_wp2
        go_roundw
        case rel => exact ⟨j + 1, by omega, by go_num, hbb2, ⟨by go_simp, by go_simp, by go_simp⟩, by go_size, fun t' ht' => by
          rcases Nat.lt_or_ge t' j with h1 | h1
          · exact HQ.out t' h1
          · obtain rfl : t' = j := by omega
            refine fun _ => ⟨E4.out, E5.out, fun k hk hkt => ?_⟩
            rcases HT.out with ⟨i, hi, hti, hx, hno⟩ | ⟨htm, _⟩
            · exact hno k hk (by have := E6.out; omega)
            · have := E6.out; omega⟩
        case measure => simp [intOf]; omega
      · have d3 : (t != (j : Int)) = true := by simp [e3]
        have E6 : Hid (¬ t = (j : Int)) := Lib.hid e3
        clear e3
        go_wp2
        go_ret
        refine ⟨ret_bool ((Bool.eq_false_iff.2 (fun hr => ?_)).symm), hbb2⟩
        have hn := ((HR.out.1 hr).2.2.2 j hlt).2.2
        rcases HT.out with ⟨i, hi, hti, hx, hno⟩ | ⟨htm, hno⟩
        · have hne : i ≠ j := fun h => E6.out (by rw [hti, h])
          rcases Nat.lt_or_ge i j with h1 | h1
          · exact hn i hi h1 hx
          · exact hno j hlt (by omega) rfl
        · exact hno j hlt rfl
    · clear hat
      go_wp2
      go_ret
      exact ⟨ret_bool (HR.out.2 ⟨E1.out, E2.out, E3.out, fun t ht => HQ.out t (Nat.lt_of_lt_of_le ht (by have := hlt; simp; omega)) ht⟩).symm, hb⟩
end Go.Proofs.Ythodbhjnfeahhaa
