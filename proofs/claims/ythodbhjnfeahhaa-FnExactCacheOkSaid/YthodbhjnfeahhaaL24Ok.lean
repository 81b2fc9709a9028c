/- A cache that is in order: the reference's look. -/
import Derived.Test.YthodbhjnfeahhaaCacheOk
set_option linter.unusedSimpArgs false
set_option linter.unusedVariables false
namespace Go.Proofs.Ythodbhjnfeahhaa
open Go.RowKit
set_option maxHeartbeats 4000000 in
theorem l24Ok_any (d : DCache) (v : Value) (p : Blk) (w : World) (h : SRep 2 ItemC w v d.2.2 p) (r : Bool) (hr : r = true ↔ CacheOk d) :
    Calls Try.prog 44 #[.agg #[.int .i64 d.1, .int .i64 d.2.1, v]] w fun e w' => e = .returned (.bool r) ∧ Below w.heap.size w w' := by
  obtain ⟨m, g, xs⟩ := d
  obtain ⟨a, c, rfl, hl, hat⟩ := h.opn
  have HR := Lib.hid hr
  clear hr h
  go_enter Try.func44, Try.ntmps44
  go_wp2
  go_loopw [3] (fun i wr => ∃ j : Nat, j ≤ xs.length ∧ i = .int .i64 j ∧ Below w.heap.size w wr ∧ (wr.cell? ⟨w.heap.size, 0, none⟩ = some (.int .i64 m) ∧ wr.cell? ⟨w.heap.size, 1, none⟩ = some (.int .i64 g) ∧ wr.cell? ⟨w.heap.size, 2, none⟩ = some (.slice a xs.length c)) ∧ w.heap.size < wr.heap.size ∧ Hid (∀ t, t < j → ItemAt xs t)) (fun i _ => xs.length - (intOf i).toNat)
  case atStart => exact ⟨0, Nat.zero_le _, rfl, by go_grown, ⟨by go_simp, by go_simp, by go_simp⟩, by go_size, fun t h => by omega⟩
  case round =>
    obtain ⟨j, hj, rfl, hb, ⟨q0, q1, q2⟩, hlw, HQ⟩ := hrel
    by_cases hlt : j < xs.length
    · obtain ⟨b, o, cs, rfl, _, _, hcc, hv1, rfl, z0, s1⟩ := hat j hlt
      obtain ⟨a1, c1, rfl⟩ := s1.shape
      have S1 := Lib.hid (s1.later hitGood hb)
      have HAT := Lib.hid hat
      have y0 : wr.cell? ⟨b, o + j * 2, none⟩ = some (.string xs[j].1) := cell_later hb (hcc 0 _ rfl)
      have y1 : wr.cell? ⟨b, o + j * 2 + 1, none⟩ = some (.slice a1 xs[j].2.length c1) := cell_later hb (hcc 1 _ rfl)
      have hbs := hb.size
      clear hat hcc s1
      by_cases e1 : xs[j].1 = ByteArray.empty
      · have d1 := noText e1
        have E4 := Lib.hid e1
        clear e1
        go_wp2
        go_ret
        exact ⟨ret_bool ((Bool.eq_false_iff.2 (fun hr => ((HR.out.1 hr).2.2.2 j hlt).1 E4.out)).symm), by go_grown⟩
      have d1 := someText e1
      have d1' := someText' e1
      have E4 : Hid (¬ xs[j].1 = ByteArray.empty) := Lib.hid e1
      clear e1
      by_cases e2 : HitsOk xs[j].2
      rotate_left
      · have E5 := Lib.hid e2
        clear e2
        go_wp2_with fail
        refine (l13Ok_any _ xs[j].2 p _ (S1.out.later hitGood (by go_grown)) false (by simp [E5.out])).mono ?_
        rintro e w1 ⟨rfl, hb1⟩
        go_wp2
        go_ret
        exact ⟨ret_bool ((Bool.eq_false_iff.2 (fun hr => E5.out ((HR.out.1 hr).2.2.2 j hlt).2.1)).symm), below_tr hb1 (by go_grown)⟩
      have E5 := Lib.hid e2
      clear e2
      go_wp2_with fail
      refine (l13Ok_any _ xs[j].2 p _ (S1.out.later hitGood (by go_grown)) true (by simp [E5.out])).mono ?_
      rintro e w1 ⟨rfl, hb1⟩
      have x0 : w1.cell? ⟨w.heap.size, 0, none⟩ = some (.int .i64 m) := cell_later hb1 (by go_simp)
      have x1 : w1.cell? ⟨w.heap.size, 1, none⟩ = some (.int .i64 g) := cell_later hb1 (by go_simp)
      have x2 : w1.cell? ⟨w.heap.size, 2, none⟩ = some (.slice (some ⟨b, o, none⟩) xs.length c) := cell_later hb1 (by go_simp)
      have hbb : Below w.heap.size w w1 := below_tr hb1 (by go_grown)
      have hw1 : w.heap.size < w1.heap.size := lt_of_cell x0
      clear hb1 q0 q1 q2 y0 y1 hb d1 d1' hlw hbs
      go_wp2
      go_loopw [4] (fun i wr => ∃ k : Nat, k ≤ j ∧ i = .int .i64 k ∧ Below w.heap.size w wr ∧ (wr.cell? ⟨w.heap.size, 0, none⟩ = some (.int .i64 m) ∧ wr.cell? ⟨w.heap.size, 1, none⟩ = some (.int .i64 g) ∧ wr.cell? ⟨w.heap.size, 2, none⟩ = some (.slice (some ⟨b, o, none⟩) xs.length c)) ∧ w.heap.size < wr.heap.size ∧ Hid (∀ t (h : t < xs.length), t < k → xs[t].1 ≠ xs[j].1)) (fun i _ => j - (intOf i).toNat)
      case atStart => exact ⟨0, Nat.zero_le _, rfl, hbb, ⟨x0, x1, x2⟩, hw1, fun t _ h => by omega⟩
      case round =>
        clear x0 x1 x2 hbb hw1
        obtain ⟨k, hk, rfl, hbk, ⟨x0, x1, x2⟩, hwk, HK⟩ := hrel
        by_cases hkt : k < j
        · obtain ⟨b', o', cs', ea, _, _, hcc', hv1, rfl, _, _⟩ := HAT.out k (by omega)
          cases ea
          obtain ⟨b', o', cs', ea, _, _, hcj', hv1', rfl, _, _⟩ := HAT.out j hlt
          cases ea
          have k0 : wr.cell? ⟨b, o + k * 2, none⟩ = some (.string xs[k].1) := cell_later hbk (hcc' 0 _ rfl)
          have j0 : wr.cell? ⟨b, o + j * 2, none⟩ = some (.string xs[j].1) := cell_later hbk (hcj' 0 _ rfl)
          clear hcc' hcj'
          by_cases ek : xs[k].1 = xs[j].1
          · have dk := strEq_true ek
            have EK := Lib.hid ek
            clear ek
            go_wp2
            (refine wp_region_b [(⟨w.heap.size, 2, none⟩, .slice (some ⟨b, o, none⟩) xs.length c), (⟨b, o + k * 2, none⟩, .string xs[k].1), (⟨b, o + j * 2, none⟩, .string xs[j].1)] (by kernel_rfl) (by kernel_rfl) (by simp only [cells_cons, cells_nil, and_true]; repeat' (first | exact True.intro | assumption | refine And.intro ?_ ?_ | (go_simp; done))) ?_; intro wq hq hlq; have hcq := hlq; simp only [cells_cons, cells_nil, and_true, implies_true] at hcq; (repeat (go_big_quiet_step (skip))); (first | refine wpQuiet_end hq hlq ?_ | (go_big_quiet_want; go_big_quiet_op; apply Exists.intro; refine ⟨fun _ => ?_, ?_⟩; (skip)))); clear hcq hlq hq wq; intro wb hbq hcb; simp only [cells_cons, cells_nil, and_true] at hcb
            go_wp2
            go_ret
            exact ⟨ret_bool ((Bool.eq_false_iff.2 (fun hr => ((HR.out.1 hr).2.2.2 j hlt).2.2 k (by simp; omega) hkt EK.out)).symm), below_tr hbq hbk⟩
          · have dk := strEq_false ek
            have EK : Hid (¬ xs[k].1 = xs[j].1) := Lib.hid ek
            clear ek
            go_wp2
            (refine wp_region_b [(⟨w.heap.size, 0, none⟩, .int .i64 m), (⟨w.heap.size, 1, none⟩, .int .i64 g), (⟨w.heap.size, 2, none⟩, .slice (some ⟨b, o, none⟩) xs.length c), (⟨b, o + k * 2, none⟩, .string xs[k].1), (⟨b, o + j * 2, none⟩, .string xs[j].1)] (by kernel_rfl) (by kernel_rfl) (by simp only [cells_cons, cells_nil, and_true]; repeat' (first | exact True.intro | assumption | refine And.intro ?_ ?_ | (go_simp; done))) ?_; intro wq hq hlq; have hcq := hlq; simp only [cells_cons, cells_nil, and_true, implies_true] at hcq; (repeat (go_big_quiet_step (skip))); (first | refine wpQuiet_end hq hlq ?_ | (go_big_quiet_want; go_big_quiet_op; apply Exists.intro; refine ⟨fun _ => ?_, ?_⟩; (skip)))); clear hcq hlq hq wq; intro wb hbq hcb; simp only [cells_cons, cells_nil, and_true] at hcb
            obtain ⟨z0', z1', z2', _⟩ := hcb
            go_wp2
            go_roundw
            case rel => exact ⟨k + 1, by omega, by go_num, below_tr hbq hbk, ⟨z0', z1', z2'⟩, lt_of_cell z0', fun t ht h => by
              rcases Nat.lt_or_ge t k with h1 | h1
              · exact HK.out t ht h1
              · obtain rfl : t = k := by omega
                exact EK.out⟩
            case measure => simp [intOf]; omega
        · obtain rfl : k = j := by omega
          go_wp2
          go_roundw
          case rel => exact ⟨k + 1, by omega, by go_num, hbk, ⟨x0, x1, x2⟩, hwk, fun t ht => by
            rcases Nat.lt_or_ge t k with h1 | h1
            · exact HQ.out t h1
            · obtain rfl : t = k := by omega
              exact fun _ => ⟨E4.out, E5.out, fun i hi hik => HK.out i hi hik⟩⟩
          case measure => simp [intOf]; omega
    · clear hat
      have HI : Hid (∀ t, ItemAt xs t) := fun t ht => HQ.out t (by omega) ht
      clear HQ
      by_cases e1 : 1 ≤ m ∧ m ≤ 5
      rotate_left
      · go_wp2_with fail
        refine (l1In_any _ _ _ false (by simp; omega) _).mono ?_
        rintro e w1 ⟨rfl, rfl⟩
        go_wp2
        go_ret
        exact ⟨ret_bool ((Bool.eq_false_iff.2 (fun hr => e1 (HR.out.1 hr).1)).symm), by go_grown⟩
      by_cases e3 : (xs.length : Int) ≤ m
      rotate_left
      · have d3 : decide ((xs.length : Int) ≤ m) = false := by simp; omega
        have E3 : Hid (¬ (xs.length : Int) ≤ m) := Lib.hid e3
        clear e3
        go_wp2_with fail
        refine (l1In_any _ _ _ true (by simp; omega) _).mono ?_
        rintro e w1 ⟨rfl, rfl⟩
        go_wp2
        go_ret
        exact ⟨ret_bool ((Bool.eq_false_iff.2 (fun hr => by have h1 := E3.out; have h2 : (xs.length : Int) ≤ m := (HR.out.1 hr).2.2.1; omega)).symm), by go_grown⟩
      have d3 : decide ((xs.length : Int) ≤ m) = true := by simp; omega
      by_cases e2 : 0 ≤ g ∧ g ≤ 999999999
      · go_wp2_with fail
        refine (l1In_any _ _ _ true (by simp; omega) _).mono ?_
        rintro e w1 ⟨rfl, rfl⟩
        go_wp2_with fail
        refine (l1In_any _ _ _ true (by simp; omega) _).mono ?_
        rintro e w1 ⟨rfl, rfl⟩
        go_wp2
        go_ret
        exact ⟨ret_bool (HR.out.2 ⟨e1, e2, by simpa using e3, HI.out⟩).symm, by go_grown⟩
      · go_wp2_with fail
        refine (l1In_any _ _ _ true (by simp; omega) _).mono ?_
        rintro e w1 ⟨rfl, rfl⟩
        go_wp2_with fail
        refine (l1In_any _ _ _ false (by simp; omega) _).mono ?_
        rintro e w1 ⟨rfl, rfl⟩
        go_wp2
        go_ret
        exact ⟨ret_bool ((Bool.eq_false_iff.2 (fun hr => e2 (HR.out.1 hr).2.1)).symm), by go_grown⟩
set_option maxHeartbeats 400000 in
theorem specCacheOk_any (d : DCache) (v : Value) (p : Blk) (w : World) (h : SRep 2 ItemC w v d.2.2 p) (r : Bool) (hr : r = true ↔ CacheOk d) :
    Calls Try.prog 19 #[.agg #[.int .i64 d.1, .int .i64 d.2.1, v]] w fun e w' => e = .returned (.bool r) ∧ Below w.heap.size w w' := by
  obtain ⟨m, g, xs⟩ := d
  obtain ⟨a, c, rfl⟩ := h.shape
  have HH := Lib.hid h
  clear h
  go_enter Try.func19, Try.ntmps19
  go_wp2_with fail
  refine (l24Ok_any (m, g, xs) _ p _ (HH.out.later itemGood (by go_grown)) r hr).mono ?_
  rintro e w1 ⟨rfl, hb1⟩
  go_wp2
  go_ret
  exact ⟨rfl, below_tr hb1 (by go_grown)⟩
theorem specCacheOk'_any (d : DCache) (v : Value) (p : Blk) (w : World) (h : SRep 2 ItemC w v d.2.2 p) (hs : szDCache d ≤ 1048576) (r : Bool) (hr : r = true ↔ CacheOk d) :
    Calls Try.prog 19 #[.agg #[.int .i64 d.1, .int .i64 d.2.1, v]] w fun e w' => e = .returned (.bool r) ∧ Below w.heap.size w w' := specCacheOk_any d v p w h r hr
theorem implCacheOk'_any (d : DCache) (v : Value) (p : Blk) (w : World) (h : SRep 2 ItemC w v d.2.2 p) (hs : szDCache d ≤ 1048576) (r : Bool) (hr : r = true ↔ CacheOk d) :
    Calls Try.prog 17 #[.agg #[.int .i64 d.1, .int .i64 d.2.1, v]] w fun e w' => e = .returned (.bool r) ∧ Below w.heap.size w w' := implCacheOk_any d v p w h r hr
end Go.Proofs.Ythodbhjnfeahhaa
