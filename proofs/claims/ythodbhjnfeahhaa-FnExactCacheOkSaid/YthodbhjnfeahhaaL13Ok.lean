/- Hits that are in order: the reference's look. -/
import Derived.Test.YthodbhjnfeahhaaHitsOk
set_option linter.unusedSimpArgs false
set_option linter.unusedVariables false
namespace Go.Proofs.Ythodbhjnfeahhaa
open Go.RowKit
set_option maxHeartbeats 400000 in
theorem l13Less_any (a b : DHit) (r : Bool) (hr : r = true ↔ hitLt a b) (w : World) :
    Calls Try.prog 67 #[.agg #[.int .i64 a.1, .int .i64 a.2], .agg #[.int .i64 b.1, .int .i64 b.2]] w fun e w' => e = .returned (.bool r) ∧ Below w.heap.size w w' := by
  have HR := Lib.hid hr
  clear hr
  obtain ⟨a0, a1⟩ := a
  obtain ⟨b0, b1⟩ := b
  go_enter Try.func67, Try.ntmps67
  by_cases e1 : b1 < a1
  · have d1 : decide (b1 < a1) = true := by simp [e1]
    go_wp2
    go_ret
    exact ⟨ret_bool (by rw [Bool.eq_iff_iff, HR.out]; simp [hitLt, e1]), by go_grown⟩
  · have d1 : decide (b1 < a1) = false := by simp; omega
    by_cases e2 : a1 = b1
    · subst e2
      by_cases e3 : a0 < b0
      · have d3 : decide (a0 < b0) = true := by simp [e3]
        go_wp2
        go_ret
        exact ⟨ret_bool (by rw [Bool.eq_iff_iff, HR.out]; simp [hitLt, e3]), by go_grown⟩
      · have d3 : decide (a0 < b0) = false := by simp; omega
        go_wp2
        go_ret
        exact ⟨ret_bool (by rw [Bool.eq_iff_iff, HR.out]; simp [hitLt]; omega), by go_grown⟩
    · have d2 : decide (a1 = b1) = false := by simp [e2]
      go_wp2
      go_ret
      exact ⟨ret_bool (by rw [Bool.eq_iff_iff, HR.out]; simp [hitLt]; omega), by go_grown⟩
set_option maxHeartbeats 4000000 in
theorem l13Ok_any (v : Value) (xs : List DHit) (p : Blk) (w : World) (h : SRep 2 HitC w v xs p) (r : Bool) (hr : r = true ↔ HitsOk xs) :
    Calls Try.prog 54 #[v] w fun e w' => e = .returned (.bool r) ∧ Below w.heap.size w w' := by
  obtain ⟨a, c, rfl, hl, hat⟩ := h.opn
  have HR := Lib.hid hr
  clear hr h
  go_enter Try.func54, Try.ntmps54
  go_wp2
  go_loopw [3] (fun i wr => ∃ j : Nat, j ≤ xs.length ∧ i = .int .i64 j ∧ Below w.heap.size w wr ∧ Hid (∀ t, t < j → HitAt xs t)) (fun i _ => xs.length - (intOf i).toNat)
  case atStart => exact ⟨0, Nat.zero_le _, rfl, Below.refl _ _, fun t h => by omega⟩
  case round =>
    obtain ⟨j, hj, rfl, hb, HQ⟩ := hrel
    by_cases hlt : j < xs.length
    · have hat0 := hat j hlt
      obtain ⟨b, o, cs, rfl, _, _, hcc, rfl⟩ := hat0
      have y0 : wr.cell? ⟨b, o + j * 2, none⟩ = some (.int .i64 xs[j].1) := cell_later hb (hcc 0 _ rfl)
      have y1 : wr.cell? ⟨b, o + j * 2 + 1, none⟩ = some (.int .i64 xs[j].2) := cell_later hb (hcc 1 _ rfl)
      have hbl := lt_of_cell y0
      have hbs := hb.size
      clear hcc
      by_cases e1 : 1 ≤ xs[j].1 ∧ xs[j].1 ≤ 9999
      rotate_left
      · clear hat
        go_wp2
        (refine wp_region_b [(⟨b, o + j * 2, none⟩, .int .i64 xs[j].1), (⟨b, o + j * 2 + 1, none⟩, .int .i64 xs[j].2)] (by kernel_rfl) (by kernel_rfl) (by simp only [cells_cons, cells_nil, and_true]; repeat' (first | exact True.intro | assumption | refine And.intro ?_ ?_ | (go_simp; done))) ?_; intro wq hq hlq; have hcq := hlq; simp only [cells_cons, cells_nil, and_true, implies_true] at hcq; (repeat (go_big_quiet_step ((go_at_call 35; exact calls_rg_same (l1In_any _ _ _ false (by simp; omega) _))))); (first | refine wpQuiet_end hq hlq ?_ | (go_big_quiet_want; go_big_quiet_op; apply Exists.intro; refine ⟨fun _ => ?_, ?_⟩; ((go_at_call 35; exact calls_rg_same (l1In_any _ _ _ false (by simp; omega) _)))))); clear hcq hlq hq wq; intro wb hbq hcb; simp only [cells_cons, cells_nil, and_true] at hcb
        go_wp2
        go_ret
        exact ⟨ret_bool ((Bool.eq_false_iff.2 (fun hr => e1 ((HR.out.1 hr).2 j hlt).1)).symm), below_tr hbq hb⟩
      by_cases e2 : xs[j].2 < 1
      · clear hat
        have d2 : decide (xs[j].2 < 1) = true := by simp [e2]
        go_wp2
        (refine wp_region_b [(⟨b, o + j * 2, none⟩, .int .i64 xs[j].1), (⟨b, o + j * 2 + 1, none⟩, .int .i64 xs[j].2)] (by kernel_rfl) (by kernel_rfl) (by simp only [cells_cons, cells_nil, and_true]; repeat' (first | exact True.intro | assumption | refine And.intro ?_ ?_ | (go_simp; done))) ?_; intro wq hq hlq; have hcq := hlq; simp only [cells_cons, cells_nil, and_true, implies_true] at hcq; (repeat (go_big_quiet_step ((go_at_call 35; exact calls_rg_same (l1In_any _ _ _ true (by simp; omega) _))))); (first | refine wpQuiet_end hq hlq ?_ | (go_big_quiet_want; go_big_quiet_op; apply Exists.intro; refine ⟨fun _ => ?_, ?_⟩; ((go_at_call 35; exact calls_rg_same (l1In_any _ _ _ true (by simp; omega) _)))))); clear hcq hlq hq wq; intro wb hbq hcb; simp only [cells_cons, cells_nil, and_true] at hcb
        go_wp2
        go_ret
        exact ⟨ret_bool ((Bool.eq_false_iff.2 (fun hr => by have := ((HR.out.1 hr).2 j hlt).2.1; omega)).symm), below_tr hbq hb⟩
      have d2 : decide (xs[j].2 < 1) = false := by simp; omega
      have E1 := Lib.hid e1
      have E2 := Lib.hid e2
      by_cases e4 : 0 < j
      · have hat1 := hat (j - 1) (by omega)
        obtain ⟨b', o', cs', ea, _, _, hcc', rfl⟩ := hat1
        cases ea
        have p0 : wr.cell? ⟨b, o + (j - 1) * 2, none⟩ = some (.int .i64 xs[j - 1].1) := cell_later hb (hcc' 0 _ rfl)
        have p1 : wr.cell? ⟨b, o + (j - 1) * 2 + 1, none⟩ = some (.int .i64 xs[j - 1].2) := cell_later hb (hcc' 1 _ rfl)
        clear hcc'
        have d4 : decide ((0 : Int) < (j : Int)) = true := by simp [e4]
        have t4 : ((j : Int) - 1).toNat = j - 1 := by omega
        have HAT := Lib.hid hat
        clear hat
        by_cases e5 : hitLt xs[j - 1] xs[j]
        · have E5 := Lib.hid e5
          clear e5
          go_wp2
          (refine wp_region_b [(⟨b, o + j * 2, none⟩, .int .i64 xs[j].1), (⟨b, o + j * 2 + 1, none⟩, .int .i64 xs[j].2), (⟨b, o + (j - 1) * 2, none⟩, .int .i64 xs[j - 1].1), (⟨b, o + (j - 1) * 2 + 1, none⟩, .int .i64 xs[j - 1].2)] (by kernel_rfl) (by kernel_rfl) (by simp only [cells_cons, cells_nil, and_true]; repeat' (first | exact True.intro | assumption | refine And.intro ?_ ?_ | (go_simp; done))) ?_; intro wq hq hlq; have hcq := hlq; simp only [cells_cons, cells_nil, and_true, implies_true] at hcq; (repeat (go_big_quiet_step (first | (go_at_call 35; exact calls_rg_same (l1In_any _ _ _ true (by simp; omega) _)) | (go_at_call 67; exact calls_rg (l13Less_any xs[j - 1] xs[j] true (by simp [E5.out]) _))))); (first | refine wpQuiet_end hq hlq ?_ | (go_big_quiet_want; go_big_quiet_op; apply Exists.intro; refine ⟨fun _ => ?_, ?_⟩; (first | (go_at_call 35; exact calls_rg_same (l1In_any _ _ _ true (by simp; omega) _)) | (go_at_call 67; exact calls_rg (l13Less_any xs[j - 1] xs[j] true (by simp [E5.out]) _)))))); clear hcq hlq hq wq; intro wb hbq hcb; simp only [cells_cons, cells_nil, and_true] at hcb
          have hat := HAT.out
          clear HAT p0 p1 t4 d4
          have hbw := below_tr hbq hb
          clear hbq hcb
          go_wp2
          go_loopw [4] (fun i wr => ∃ k : Nat, k ≤ j ∧ i = .int .i64 k ∧ Below w.heap.size w wr ∧ Hid (∀ t (h : t < xs.length), t < k → xs[t].1 ≠ xs[j].1)) (fun i _ => j - (intOf i).toNat)
          case atStart => exact ⟨0, Nat.zero_le _, rfl, hbw, fun t _ h => by omega⟩
          case round =>
            obtain ⟨k, hk, rfl, hbk, HK⟩ := hrel
            by_cases hkt : k < j
            · obtain ⟨b', o', cs', ea, _, _, hcc', rfl⟩ := hat k (by omega)
              cases ea
              obtain ⟨b', o', cs', ea, _, _, hcj', rfl⟩ := hat j hlt
              cases ea
              have k0 : wr.cell? ⟨b, o + k * 2, none⟩ = some (.int .i64 xs[k].1) := cell_later hbk (hcc' 0 _ rfl)
              have j0 : wr.cell? ⟨b, o + j * 2, none⟩ = some (.int .i64 xs[j].1) := cell_later hbk (hcj' 0 _ rfl)
              clear hat hcc' hcj' y0 y1
              have hbks := hbk.size
              by_cases ek : xs[k].1 = xs[j].1
              · have dk : (xs[k].1 == xs[j].1) = true := by simp [ek]
                have EK := Lib.hid ek
                clear ek
                go_wp2
                (refine wp_region_b [(⟨b, o + k * 2, none⟩, .int .i64 xs[k].1), (⟨b, o + j * 2, none⟩, .int .i64 xs[j].1)] (by kernel_rfl) (by kernel_rfl) (by simp only [cells_cons, cells_nil, and_true]; repeat' (first | exact True.intro | assumption | refine And.intro ?_ ?_ | (go_simp; done))) ?_; intro wq hq hlq; have hcq := hlq; simp only [cells_cons, cells_nil, and_true, implies_true] at hcq; (repeat (go_big_quiet_step (skip))); (first | refine wpQuiet_end hq hlq ?_ | (go_big_quiet_want; go_big_quiet_op; apply Exists.intro; refine ⟨fun _ => ?_, ?_⟩; (skip)))); clear hcq hlq hq wq; intro wb hbq hcb; simp only [cells_cons, cells_nil, and_true] at hcb
                go_wp2
                go_ret
                exact ⟨ret_bool ((Bool.eq_false_iff.2 (fun hr => ((HR.out.1 hr).2 j hlt).2.2.1 ⟨k, by rw [List.length_take]; omega, by rw [List.getElem_take]; exact EK.out⟩)).symm), below_tr hbq hbk⟩
              · have dk : (xs[k].1 == xs[j].1) = false := by simp [ek]
                have EK := Lib.hid ek
                clear ek
                go_wp2
                (refine wp_region_b [(⟨b, o + k * 2, none⟩, .int .i64 xs[k].1), (⟨b, o + j * 2, none⟩, .int .i64 xs[j].1)] (by kernel_rfl) (by kernel_rfl) (by simp only [cells_cons, cells_nil, and_true]; repeat' (first | exact True.intro | assumption | refine And.intro ?_ ?_ | (go_simp; done))) ?_; intro wq hq hlq; have hcq := hlq; simp only [cells_cons, cells_nil, and_true, implies_true] at hcq; (repeat (go_big_quiet_step (skip))); (first | refine wpQuiet_end hq hlq ?_ | (go_big_quiet_want; go_big_quiet_op; apply Exists.intro; refine ⟨fun _ => ?_, ?_⟩; (skip)))); clear hcq hlq hq wq; intro wb hbq hcb; simp only [cells_cons, cells_nil, and_true] at hcb
                go_wp2
                go_roundw
                case rel => exact ⟨k + 1, by omega, by go_num, below_tr hbq hbk, fun t ht h => by
                  rcases Nat.lt_or_ge t k with h1 | h1
                  · exact HK.out t ht h1
                  · obtain rfl : t = k := by omega
                    exact EK.out⟩
                case measure => simp [intOf]; omega
            · obtain rfl : k = j := by omega
              clear hat y0 y1
              go_wp2
              go_roundw
              case rel => exact ⟨k + 1, by omega, by go_num, hbk, fun t ht => by
                rcases Nat.lt_or_ge t k with h1 | h1
                · exact HQ.out t h1
                · obtain rfl : t = k := by omega
                  exact fun _ => ⟨E1.out, by have := E2.out; omega, fun ⟨i, hi, hx⟩ => by rw [List.getElem_take] at hx; rw [List.length_take] at hi; exact HK.out i (by omega) (by omega) hx, fun _ => E5.out⟩⟩
              case measure => simp [intOf]; omega
        · have E5 := Lib.hid e5
          clear e5
          go_wp2
          (refine wp_region_b [(⟨b, o + j * 2, none⟩, .int .i64 xs[j].1), (⟨b, o + j * 2 + 1, none⟩, .int .i64 xs[j].2), (⟨b, o + (j - 1) * 2, none⟩, .int .i64 xs[j - 1].1), (⟨b, o + (j - 1) * 2 + 1, none⟩, .int .i64 xs[j - 1].2)] (by kernel_rfl) (by kernel_rfl) (by simp only [cells_cons, cells_nil, and_true]; repeat' (first | exact True.intro | assumption | refine And.intro ?_ ?_ | (go_simp; done))) ?_; intro wq hq hlq; have hcq := hlq; simp only [cells_cons, cells_nil, and_true, implies_true] at hcq; (repeat (go_big_quiet_step (first | (go_at_call 35; exact calls_rg_same (l1In_any _ _ _ true (by simp; omega) _)) | (go_at_call 67; exact calls_rg (l13Less_any xs[j - 1] xs[j] false (by simp [E5.out]) _))))); (first | refine wpQuiet_end hq hlq ?_ | (go_big_quiet_want; go_big_quiet_op; apply Exists.intro; refine ⟨fun _ => ?_, ?_⟩; (first | (go_at_call 35; exact calls_rg_same (l1In_any _ _ _ true (by simp; omega) _)) | (go_at_call 67; exact calls_rg (l13Less_any xs[j - 1] xs[j] false (by simp [E5.out]) _)))))); clear hcq hlq hq wq; intro wb hbq hcb; simp only [cells_cons, cells_nil, and_true] at hcb
          go_wp2
          go_ret
          exact ⟨ret_bool ((Bool.eq_false_iff.2 (fun hr => E5.out (((HR.out.1 hr).2 j hlt).2.2.2 e4))).symm), below_tr hbq hb⟩
      · have E4 := Lib.hid (show j = 0 by omega)
        have d4 : decide ((0 : Int) < (j : Int)) = false := by simp; omega
        have d4n : decide (0 < j) = false := by simp; omega
        have HAT := Lib.hid hat
        clear hat
        go_wp2
        (refine wp_region_b [(⟨b, o + j * 2, none⟩, .int .i64 xs[j].1), (⟨b, o + j * 2 + 1, none⟩, .int .i64 xs[j].2)] (by kernel_rfl) (by kernel_rfl) (by simp only [cells_cons, cells_nil, and_true]; repeat' (first | exact True.intro | assumption | refine And.intro ?_ ?_ | (go_simp; done))) ?_; intro wq hq hlq; have hcq := hlq; simp only [cells_cons, cells_nil, and_true, implies_true] at hcq; (repeat (go_big_quiet_step ((go_at_call 35; exact calls_rg_same (l1In_any _ _ _ true (by simp; omega) _))))); (first | refine wpQuiet_end hq hlq ?_ | (go_big_quiet_want; go_big_quiet_op; apply Exists.intro; refine ⟨fun _ => ?_, ?_⟩; ((go_at_call 35; exact calls_rg_same (l1In_any _ _ _ true (by simp; omega) _)))))); clear hcq hlq hq wq; intro wb hbq hcb; simp only [cells_cons, cells_nil, and_true] at hcb
        have hat := HAT.out
        clear HAT e4 d4 d4n
        have hbw := below_tr hbq hb
        clear hbq hcb
        go_wp2
        go_loopw [4] (fun i wr => ∃ k : Nat, k ≤ j ∧ i = .int .i64 k ∧ Below w.heap.size w wr ∧ Hid (∀ t (h : t < xs.length), t < k → xs[t].1 ≠ xs[j].1)) (fun i _ => j - (intOf i).toNat)
        case atStart => exact ⟨0, Nat.zero_le _, rfl, hbw, fun t _ h => by omega⟩
        case round =>
          obtain ⟨k, hk, rfl, hbk, HK⟩ := hrel
          by_cases hkt : k < j
          · obtain ⟨b', o', cs', ea, _, _, hcc', rfl⟩ := hat k (by omega)
            cases ea
            obtain ⟨b', o', cs', ea, _, _, hcj', rfl⟩ := hat j hlt
            cases ea
            have k0 : wr.cell? ⟨b, o + k * 2, none⟩ = some (.int .i64 xs[k].1) := cell_later hbk (hcc' 0 _ rfl)
            have j0 : wr.cell? ⟨b, o + j * 2, none⟩ = some (.int .i64 xs[j].1) := cell_later hbk (hcj' 0 _ rfl)
            clear hat hcc' hcj' y0 y1
            have hbks := hbk.size
            by_cases ek : xs[k].1 = xs[j].1
            · have dk : (xs[k].1 == xs[j].1) = true := by simp [ek]
              have EK := Lib.hid ek
              clear ek
              go_wp2
              (refine wp_region_b [(⟨b, o + k * 2, none⟩, .int .i64 xs[k].1), (⟨b, o + j * 2, none⟩, .int .i64 xs[j].1)] (by kernel_rfl) (by kernel_rfl) (by simp only [cells_cons, cells_nil, and_true]; repeat' (first | exact True.intro | assumption | refine And.intro ?_ ?_ | (go_simp; done))) ?_; intro wq hq hlq; have hcq := hlq; simp only [cells_cons, cells_nil, and_true, implies_true] at hcq; (repeat (go_big_quiet_step (skip))); (first | refine wpQuiet_end hq hlq ?_ | (go_big_quiet_want; go_big_quiet_op; apply Exists.intro; refine ⟨fun _ => ?_, ?_⟩; (skip)))); clear hcq hlq hq wq; intro wb hbq hcb; simp only [cells_cons, cells_nil, and_true] at hcb
              go_wp2
              go_ret
              exact ⟨ret_bool ((Bool.eq_false_iff.2 (fun hr => ((HR.out.1 hr).2 j hlt).2.2.1 ⟨k, by rw [List.length_take]; omega, by rw [List.getElem_take]; exact EK.out⟩)).symm), below_tr hbq hbk⟩
            · have dk : (xs[k].1 == xs[j].1) = false := by simp [ek]
              have EK := Lib.hid ek
              clear ek
              go_wp2
              (refine wp_region_b [(⟨b, o + k * 2, none⟩, .int .i64 xs[k].1), (⟨b, o + j * 2, none⟩, .int .i64 xs[j].1)] (by kernel_rfl) (by kernel_rfl) (by simp only [cells_cons, cells_nil, and_true]; repeat' (first | exact True.intro | assumption | refine And.intro ?_ ?_ | (go_simp; done))) ?_; intro wq hq hlq; have hcq := hlq; simp only [cells_cons, cells_nil, and_true, implies_true] at hcq; (repeat (go_big_quiet_step (skip))); (first | refine wpQuiet_end hq hlq ?_ | (go_big_quiet_want; go_big_quiet_op; apply Exists.intro; refine ⟨fun _ => ?_, ?_⟩; (skip)))); clear hcq hlq hq wq; intro wb hbq hcb; simp only [cells_cons, cells_nil, and_true] at hcb
              go_wp2
              go_roundw
              case rel => exact ⟨k + 1, by omega, by go_num, below_tr hbq hbk, fun t ht h => by
                rcases Nat.lt_or_ge t k with h1 | h1
                · exact HK.out t ht h1
                · obtain rfl : t = k := by omega
                  exact EK.out⟩
              case measure => simp [intOf]; omega
          · obtain rfl : k = j := by omega
            clear hat y0 y1
            go_wp2
            go_roundw
            case rel => exact ⟨k + 1, by omega, by go_num, hbk, fun t ht => by
              rcases Nat.lt_or_ge t k with h1 | h1
              · exact HQ.out t h1
              · obtain rfl : t = k := by omega
                exact fun _ => ⟨E1.out, by have := E2.out; omega, fun ⟨i, hi, hx⟩ => by rw [List.getElem_take] at hx; rw [List.length_take] at hi; exact HK.out i (by omega) (by omega) hx, fun h => by have := E4.out; omega⟩⟩
            case measure => simp [intOf]; omega
    · clear hat
      by_cases e6 : xs.length ≤ 16
      · go_wp2
        go_ret
        refine ⟨ret_bool ?_, hb⟩
        rw [Bool.eq_iff_iff, HR.out]
        simp
        exact ⟨fun _ => ⟨e6, fun t ht => HQ.out t (by omega) ht⟩, fun _ => by omega⟩
      · go_wp2
        go_ret
        refine ⟨ret_bool ?_, hb⟩
        rw [Bool.eq_iff_iff, HR.out]
        simp
        exact ⟨fun h => by omega, fun h => absurd h.1 e6⟩
end Go.Proofs.Ythodbhjnfeahhaa
