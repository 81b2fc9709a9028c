/- Hits that are in order: the program's and the reference's look. -/
import Derived.Test.YthodbhjnfeahhaaCmp
import Derived.Test.YthodbhjnfeahhaaWithin
import Derived.Test.YthodbhjnfeahhaaFamHit
import Derived.Test.YthodbhjnfeahhaaRegion
set_option linter.unusedSimpArgs false
set_option linter.unusedVariables false
namespace Go.Proofs.Ythodbhjnfeahhaa
open Go.RowKit
/-- By more points, then by a lesser number. -/
def hitLt (a b : DHit) : Prop := b.2 < a.2 ∨ (a.2 = b.2 ∧ a.1 < b.1)
def hitOrd (a b : DHit) : Int := orI (cmpI b.2 a.2) (cmpI a.1 b.1)
theorem hitOrd_neg (a b : DHit) : hitOrd a b < 0 ↔ hitLt a b := by
  unfold hitOrd orI cmpI hitLt
  split
  · split <;> (try split) <;> (try split) <;> omega
  · split <;> (try split) <;> omega
set_option maxHeartbeats 400000 in
theorem hitOrder_any (a b : DHit) (r : Int) (hr : r = hitOrd a b) (w : World) :
    Calls Try.prog 56 #[.agg #[.int .i64 a.1, .int .i64 a.2], .agg #[.int .i64 b.1, .int .i64 b.2]] w fun e w' => e = .returned (.int .i64 r) ∧ Below w.heap.size w w' := by
  have HR := Lib.hid hr
  clear hr
  obtain ⟨a0, a1⟩ := a
  obtain ⟨b0, b1⟩ := b
  go_enter Try.func56, Try.ntmps56
  go_wp2
  go_region_held3 (fun w' => w'.cell? ⟨w.heap.size, 0, none⟩ = some (.int .i64 a0) ∧ w'.cell? ⟨w.heap.size, 1, none⟩ = some (.int .i64 a1) ∧ w'.cell? ⟨w.heap.size + 1, 0, none⟩ = some (.int .i64 b0) ∧ w'.cell? ⟨w.heap.size + 1, 1, none⟩ = some (.int .i64 b1)) (go_keep) (first | (go_at_call 71; refine (compare_any _ _ _ rfl _).mono ?_; rintro e w' ⟨rfl, rfl⟩) | (go_at_call 70; refine (or2_any (cmpI b1 a1) (cmpI a0 b0) _ _ _ rfl _ (by go_simp) (by go_simp)).mono ?_; rintro e w' ⟨rfl, rfl⟩))
  go_wp2
  go_ret
  exact ⟨ret_int (by rw [HR.out]; rfl), by go_grown⟩
set_option maxHeartbeats 400000 in
theorem hasDocFn_any (x : DHit) (k : Nat) (id : Int) (r : Bool) (hr : r = decide (x.1 = id)) (w : World) (h : w.cell? ⟨k, 0, none⟩ = some (.int .i64 id)) :
    Calls Try.prog 69 #[.agg #[.int .i64 x.1, .int .i64 x.2], .pointer (some ⟨k, 0, none⟩)] w fun e w' => e = .returned (.bool r) ∧ Below w.heap.size w w' := by
  have HR := Lib.hid hr
  clear hr
  obtain ⟨x0, x1⟩ := x
  have hk := lt_of_cell h
  go_enter Try.func69, Try.ntmps69
  go_wp2
  go_ret
  exact ⟨ret_bool (by rw [HR.out]; rw [Bool.eq_iff_iff]; simp), by go_grown⟩
/-- The place of the first hit of a document. -/
def docAt (xs : List DHit) (id : Int) (r : Int) : Prop := (∃ i : Nat, ∃ h : i < xs.length, r = i ∧ xs[i].1 = id ∧ ∀ j (h : j < xs.length), j < i → xs[j].1 ≠ id) ∨ (r = -1 ∧ ∀ j (h : j < xs.length), xs[j].1 ≠ id)
def RetAt (xs : List DHit) (id : Int) (w : World) (e : Ending) (w' : World) : Prop := ∃ r : Int, docAt xs id r ∧ e = .returned (.int .i64 r) ∧ Below w.heap.size w w'
set_option maxHeartbeats 400000 in
theorem indexDoc_any (v : Value) (xs : List DHit) (p : Blk) (k : Nat) (id : Int) (w : World) (h : SRep 2 HitC w v xs p) (hc : w.cell? ⟨k, 0, none⟩ = some (.int .i64 id)) :
    Calls Try.prog 73 #[v, .func (.func 69) #[] #[.pointer (some ⟨k, 0, none⟩)]] w (RetAt xs id w) := by
  obtain ⟨a, c, rfl, hl, hat⟩ := h.opn
  clear h
  go_enter Try.func73, Try.ntmps73
  go_wp2
  go_loopw [8] (fun i wr => ∃ j : Nat, j ≤ xs.length ∧ i = .int .i64 j ∧ Below w.heap.size w wr ∧ Hid (∀ t (h : t < xs.length), t < j → xs[t].1 ≠ id)) (fun i _ => xs.length - (intOf i).toNat)
  case atStart => exact ⟨0, Nat.zero_le _, rfl, Below.refl _ _, fun t _ h => by omega⟩
  case round =>
    obtain ⟨j, hj, rfl, hb, HQ⟩ := hrel
    by_cases hlt : j < xs.length
    · obtain ⟨b, o, cs, rfl, _, _, hcc, rfl⟩ := hat j hlt
      have y0 : wr.cell? ⟨b, o + j * 2, none⟩ = some (.int .i64 xs[j].1) := cell_later hb (hcc 0 _ rfl)
      have y1 : wr.cell? ⟨b, o + j * 2 + 1, none⟩ = some (.int .i64 xs[j].2) := cell_later hb (hcc 1 _ rfl)
      have yc := cell_later hb hc
      clear hat hcc
      by_cases e : xs[j].1 = id
      · have E := Lib.hid e
        clear e
        go_wp2_with fail
        refine (hasDocFn_any xs[j] k id true (by simp [E.out]) _ yc).mono ?_
        rintro e w2 ⟨rfl, hb2⟩
        go_wp2
        go_ret
        exact ⟨j, .inl ⟨j, hlt, rfl, E.out, HQ.out⟩, rfl, below_tr hb2 hb⟩
      · have E := Lib.hid e
        clear e
        go_wp2_with fail
        refine (hasDocFn_any xs[j] k id false (by simp [E.out]) _ yc).mono ?_
        rintro e w2 ⟨rfl, hb2⟩
        go_wp2
        go_roundw
        case rel => exact ⟨j + 1, by omega, by go_num, below_tr hb2 hb, fun t ht h => by
          rcases Nat.lt_or_ge t j with h1 | h1
          · exact HQ.out t ht h1
          · obtain rfl : t = j := by omega
            exact E.out⟩
        case measure => simp [intOf]; omega
    · go_wp2
      go_ret
      exact ⟨-1, .inr ⟨rfl, fun t ht => HQ.out t ht (by omega)⟩, rfl, hb⟩
/-- Some hit is of the document. -/
def hasD (xs : List DHit) (id : Int) : Prop := ∃ j, ∃ h : j < xs.length, xs[j].1 = id
set_option maxHeartbeats 400000 in
theorem hasDoc_any (v : Value) (xs : List DHit) (p : Blk) (id : Int) (w : World) (h : SRep 2 HitC w v xs p) (r : Bool) (hr : r = true ↔ hasD xs id) :
    Calls Try.prog 55 #[v, .int .i64 id] w fun e w' => e = .returned (.bool r) ∧ Below w.heap.size w w' := by
  have HR := Lib.hid hr
  have HH := Lib.hid h
  clear hr h
  have hcon : Hid (∀ (w0 : World) (k : Nat), w0.cell? ⟨k, 0, none⟩ = some (.int .i64 id) → SRep 2 HitC w0 v xs p → Calls Try.prog 68 #[v, .func (.func 69) #[] #[.pointer (some ⟨k, 0, none⟩)]] w0 fun e w' => e = .returned (.bool r) ∧ Below w0.heap.size w0 w') := by
    intro w0 k hc h0
    go_enter Try.func68, Try.ntmps68
    go_wp2_with fail
    refine (indexDoc_any v xs p k id _ h0 hc).mono ?_
    rintro e w1 ⟨t, ht, rfl, hb1⟩
    have HT := Lib.hid ht
    clear ht
    go_wp2
    all_goals
      go_ret
      refine ⟨ret_bool ?_, hb1⟩
      rw [Bool.eq_iff_iff, HR.out]
      rcases HT.out with ⟨i, hi, rfl, e, _⟩ | ⟨rfl, hn⟩
      · exact ⟨fun _ => ⟨i, hi, e⟩, fun _ => by simp⟩
      · exact ⟨fun h => by simp at h, fun ⟨i, hi, e⟩ => absurd e (hn i hi)⟩
  go_enter Try.func55, Try.ntmps55
  go_wp2_with fail
  refine (hcon.out _ _ (by go_simp) (HH.out.later hitGood (by go_grown))).mono ?_
  rintro e w1 ⟨rfl, hb1⟩
  go_wp2
  go_ret
  exact ⟨rfl, below_tr hb1 (by go_grown)⟩
/-- What is asked of hit i among the others. -/
def HitAt (xs : List DHit) (i : Nat) : Prop := ∀ hi : i < xs.length, (1 ≤ xs[i].1 ∧ xs[i].1 ≤ 9999) ∧ 1 ≤ xs[i].2 ∧ ¬ hasD (xs.take i) xs[i].1 ∧ (0 < i → hitLt (xs[i - 1]'(by omega)) xs[i])
/-- Hits of documents, each once, the best first, not too many. -/
def HitsOk (xs : List DHit) : Prop := xs.length ≤ 16 ∧ ∀ i, HitAt xs i
set_option maxHeartbeats 2000000 in
theorem implHitsOk_any (v : Value) (xs : List DHit) (p : Blk) (w : World) (h : SRep 2 HitC w v xs p) (r : Bool) (hr : r = true ↔ HitsOk xs) :
    Calls Try.prog 32 #[v] w fun e w' => e = .returned (.bool r) ∧ Below w.heap.size w w' := by
  have h' := h
  obtain ⟨a, c, rfl, hl, hat⟩ := h'.opn
  clear h'
  have HR := Lib.hid hr
  have HH0 := Lib.hid h
  clear hr h
  go_enter Try.func32, Try.ntmps32
  go_wp2
  go_loopw [7] (fun i wr => ∃ j : Nat, j ≤ xs.length ∧ i = .int .i64 j ∧ Below w.heap.size w wr ∧ Hid (∀ t, t < j → HitAt xs t)) (fun i _ => xs.length - (intOf i).toNat)
  case atStart => exact ⟨0, Nat.zero_le _, rfl, Below.refl _ _, fun t h => by omega⟩
  case round =>
    obtain ⟨j, hj, rfl, hb, HQ⟩ := hrel
    by_cases hlt : j < xs.length
    · have HH := Lib.hid (HH0.out.later hitGood hb)
      have hat0 := hat j hlt
      obtain ⟨b, o, cs, rfl, _, _, hcc, rfl⟩ := hat0
      have y0 : wr.cell? ⟨b, o + j * 2, none⟩ = some (.int .i64 xs[j].1) := cell_later hb (hcc 0 _ rfl)
      have y1 : wr.cell? ⟨b, o + j * 2 + 1, none⟩ = some (.int .i64 xs[j].2) := cell_later hb (hcc 1 _ rfl)
      have hbl := lt_of_cell y0
      have hbs := hb.size
      have hrm := HH.out.room
      clear hcc HH0
      by_cases e1 : 1 ≤ xs[j].1 ∧ xs[j].1 ≤ 9999
      rotate_left
      · clear hat
        go_wp2
        (refine wp_region_b [(⟨wr.heap.size, 0, none⟩, .int .i64 xs[j].1), (⟨wr.heap.size, 1, none⟩, .int .i64 xs[j].2)] (by kernel_rfl) (by kernel_rfl) (by simp only [cells_cons, cells_nil, and_true]; repeat' (first | exact True.intro | assumption | refine And.intro ?_ ?_ | (go_simp; done))) ?_; intro wq hq hlq; have hcq := hlq; simp only [cells_cons, cells_nil, and_true, implies_true] at hcq; (repeat (go_big_quiet_step (first | (go_at_call 36; exact calls_rg_same (within_any _ _ _ false (by simp; omega) _))))); (first | refine wpQuiet_end hq hlq ?_ | (go_big_quiet_want; go_big_quiet_op; apply Exists.intro; refine ⟨fun _ => ?_, ?_⟩; (first | (go_at_call 36; exact calls_rg_same (within_any _ _ _ false (by simp; omega) _)))))); clear hcq hlq hq wq; intro wb hbq hcb; simp only [cells_cons, cells_nil, and_true] at hcb
        go_wp2
        go_ret
        exact ⟨ret_bool ((Bool.eq_false_iff.2 (fun hr => e1 ((HR.out.1 hr).2 j hlt).1)).symm), below_tr hbq (by go_grown)⟩
      by_cases e2 : xs[j].2 < 1
      · clear hat
        have d2 : decide (xs[j].2 < 1) = true := by simp [e2]
        go_wp2
        (refine wp_region_b [(⟨wr.heap.size, 0, none⟩, .int .i64 xs[j].1), (⟨wr.heap.size, 1, none⟩, .int .i64 xs[j].2)] (by kernel_rfl) (by kernel_rfl) (by simp only [cells_cons, cells_nil, and_true]; repeat' (first | exact True.intro | assumption | refine And.intro ?_ ?_ | (go_simp; done))) ?_; intro wq hq hlq; have hcq := hlq; simp only [cells_cons, cells_nil, and_true, implies_true] at hcq; (repeat (go_big_quiet_step (first | (go_at_call 36; exact calls_rg_same (within_any _ _ _ true (by simp; omega) _))))); (first | refine wpQuiet_end hq hlq ?_ | (go_big_quiet_want; go_big_quiet_op; apply Exists.intro; refine ⟨fun _ => ?_, ?_⟩; (first | (go_at_call 36; exact calls_rg_same (within_any _ _ _ true (by simp; omega) _)))))); clear hcq hlq hq wq; intro wb hbq hcb; simp only [cells_cons, cells_nil, and_true] at hcb
        go_wp2
        go_ret
        exact ⟨ret_bool ((Bool.eq_false_iff.2 (fun hr => by have := ((HR.out.1 hr).2 j hlt).2.1; omega)).symm), below_tr hbq (by go_grown)⟩
      have d2 : decide (xs[j].2 < 1) = false := by simp; omega
      by_cases e3 : hasD (xs.take j) xs[j].1
      · clear hat
        have E3 := Lib.hid e3
        clear e3
        go_wp2
        (refine wp_region_b [(⟨wr.heap.size, 0, none⟩, .int .i64 xs[j].1), (⟨wr.heap.size, 1, none⟩, .int .i64 xs[j].2)] (by kernel_rfl) (by kernel_rfl) (by simp only [cells_cons, cells_nil, and_true]; repeat' (first | exact True.intro | assumption | refine And.intro ?_ ?_ | (go_simp; done))) ?_; intro wq hq hlq; have hcq := hlq; simp only [cells_cons, cells_nil, and_true, implies_true] at hcq; (repeat (go_big_quiet_step (first | (go_at_call 36; exact calls_rg_same (within_any _ _ _ true (by simp; omega) _)) | (go_at_call 55; exact calls_rg (hasDoc_any _ (xs.take j) p _ _ ((HH.out.later hitGood (below_tr (hq _) (by go_grown))).take j (by omega)) true (by simp [E3.out])))))); (first | refine wpQuiet_end hq hlq ?_ | (go_big_quiet_want; go_big_quiet_op; apply Exists.intro; refine ⟨fun _ => ?_, ?_⟩; (first | (go_at_call 36; exact calls_rg_same (within_any _ _ _ true (by simp; omega) _)) | (go_at_call 55; exact calls_rg (hasDoc_any _ (xs.take j) p _ _ ((HH.out.later hitGood (below_tr (hq _) (by go_grown))).take j (by omega)) true (by simp [E3.out]))))))); clear hcq hlq hq wq; intro wb hbq hcb; simp only [cells_cons, cells_nil, and_true] at hcb
        go_wp2
        go_ret
        exact ⟨ret_bool ((Bool.eq_false_iff.2 (fun hr => ((HR.out.1 hr).2 j hlt).2.2.1 E3.out)).symm), below_tr hbq (by go_grown)⟩
      have E3 := Lib.hid e3
      clear e3
      by_cases e4 : 0 < j
      · have hat1 := hat (j - 1) (by omega)
        obtain ⟨b', o', cs', ea, _, _, hcc', rfl⟩ := hat1
        cases ea
        have p0 : wr.cell? ⟨b, o + (j - 1) * 2, none⟩ = some (.int .i64 xs[j - 1].1) := cell_later hb (hcc' 0 _ rfl)
        have p1 : wr.cell? ⟨b, o + (j - 1) * 2 + 1, none⟩ = some (.int .i64 xs[j - 1].2) := cell_later hb (hcc' 1 _ rfl)
        clear hcc' hat
        have d4 : decide ((0 : Int) < (j : Int)) = true := by simp [e4]
        have t4 : ((j : Int) - 1).toNat = j - 1 := by omega
        by_cases e5 : hitLt xs[j - 1] xs[j]
        · have d5 : decide (0 ≤ hitOrd xs[j - 1] xs[j]) = false := by have := (hitOrd_neg xs[j - 1] xs[j]).2 e5; simp; omega
          have E5 := Lib.hid e5
          clear e5
          go_wp2
          (refine wp_region_b [(⟨wr.heap.size, 0, none⟩, .int .i64 xs[j].1), (⟨wr.heap.size, 1, none⟩, .int .i64 xs[j].2), (⟨b, o + (j - 1) * 2, none⟩, .int .i64 xs[j - 1].1), (⟨b, o + (j - 1) * 2 + 1, none⟩, .int .i64 xs[j - 1].2)] (by kernel_rfl) (by kernel_rfl) (by simp only [cells_cons, cells_nil, and_true]; repeat' (first | exact True.intro | assumption | refine And.intro ?_ ?_ | (go_simp; done))) ?_; intro wq hq hlq; have hcq := hlq; simp only [cells_cons, cells_nil, and_true, implies_true] at hcq; (repeat (go_big_quiet_step (first | (go_at_call 36; exact calls_rg_same (within_any _ _ _ true (by simp; omega) _)) | (go_at_call 55; exact calls_rg (hasDoc_any _ (xs.take j) p _ _ ((HH.out.later hitGood (below_tr (hq _) (by go_grown))).take j (by omega)) false (by simp [E3.out]))) | (go_at_call 56; exact calls_rg (hitOrder_any xs[j - 1] xs[j] _ rfl _))))); (first | refine wpQuiet_end hq hlq ?_ | (go_big_quiet_want; go_big_quiet_op; apply Exists.intro; refine ⟨fun _ => ?_, ?_⟩; (first | (go_at_call 36; exact calls_rg_same (within_any _ _ _ true (by simp; omega) _)) | (go_at_call 55; exact calls_rg (hasDoc_any _ (xs.take j) p _ _ ((HH.out.later hitGood (below_tr (hq _) (by go_grown))).take j (by omega)) false (by simp [E3.out]))) | (go_at_call 56; exact calls_rg (hitOrder_any xs[j - 1] xs[j] _ rfl _)))))); clear hcq hlq hq wq; intro wb hbq hcb; simp only [cells_cons, cells_nil, and_true] at hcb
          go_wp2
          go_roundw
          case rel => exact ⟨j + 1, by omega, by go_num, below_tr hbq (by go_grown), fun t ht => by
            rcases Nat.lt_or_ge t j with h1 | h1
            · exact HQ.out t h1
            · obtain rfl : t = j := by omega
              exact fun _ => ⟨e1, by omega, E3.out, fun _ => E5.out⟩⟩
          case measure => simp [intOf]; omega
        · have d5 : decide (0 ≤ hitOrd xs[j - 1] xs[j]) = true := decide_eq_true (Int.not_lt.1 (fun h => e5 ((hitOrd_neg xs[j - 1] xs[j]).1 h)))
          have E5 := Lib.hid e5
          clear e5
          go_wp2
          (refine wp_region_b [(⟨wr.heap.size, 0, none⟩, .int .i64 xs[j].1), (⟨wr.heap.size, 1, none⟩, .int .i64 xs[j].2), (⟨b, o + (j - 1) * 2, none⟩, .int .i64 xs[j - 1].1), (⟨b, o + (j - 1) * 2 + 1, none⟩, .int .i64 xs[j - 1].2)] (by kernel_rfl) (by kernel_rfl) (by simp only [cells_cons, cells_nil, and_true]; repeat' (first | exact True.intro | assumption | refine And.intro ?_ ?_ | (go_simp; done))) ?_; intro wq hq hlq; have hcq := hlq; simp only [cells_cons, cells_nil, and_true, implies_true] at hcq; (repeat (go_big_quiet_step (first | (go_at_call 36; exact calls_rg_same (within_any _ _ _ true (by simp; omega) _)) | (go_at_call 55; exact calls_rg (hasDoc_any _ (xs.take j) p _ _ ((HH.out.later hitGood (below_tr (hq _) (by go_grown))).take j (by omega)) false (by simp [E3.out]))) | (go_at_call 56; exact calls_rg (hitOrder_any xs[j - 1] xs[j] _ rfl _))))); (first | refine wpQuiet_end hq hlq ?_ | (go_big_quiet_want; go_big_quiet_op; apply Exists.intro; refine ⟨fun _ => ?_, ?_⟩; (first | (go_at_call 36; exact calls_rg_same (within_any _ _ _ true (by simp; omega) _)) | (go_at_call 55; exact calls_rg (hasDoc_any _ (xs.take j) p _ _ ((HH.out.later hitGood (below_tr (hq _) (by go_grown))).take j (by omega)) false (by simp [E3.out]))) | (go_at_call 56; exact calls_rg (hitOrder_any xs[j - 1] xs[j] _ rfl _)))))); clear hcq hlq hq wq; intro wb hbq hcb; simp only [cells_cons, cells_nil, and_true] at hcb
          go_wp2
          go_ret
          exact ⟨ret_bool ((Bool.eq_false_iff.2 (fun hr => E5.out (((HR.out.1 hr).2 j hlt).2.2.2 e4))).symm), below_tr hbq (by go_grown)⟩
      · have E4 := Lib.hid (show j = 0 by omega)
        clear hat
        have d4 : decide ((0 : Int) < (j : Int)) = false := by simp; omega
        have d4n : decide (0 < j) = false := by simp; omega
        go_wp2
        (refine wp_region_b [(⟨wr.heap.size, 0, none⟩, .int .i64 xs[j].1), (⟨wr.heap.size, 1, none⟩, .int .i64 xs[j].2)] (by kernel_rfl) (by kernel_rfl) (by simp only [cells_cons, cells_nil, and_true]; repeat' (first | exact True.intro | assumption | refine And.intro ?_ ?_ | (go_simp; done))) ?_; intro wq hq hlq; have hcq := hlq; simp only [cells_cons, cells_nil, and_true, implies_true] at hcq; (repeat (go_big_quiet_step (first | (go_at_call 36; exact calls_rg_same (within_any _ _ _ true (by simp; omega) _)) | (go_at_call 55; exact calls_rg (hasDoc_any _ (xs.take j) p _ _ ((HH.out.later hitGood (below_tr (hq _) (by go_grown))).take j (by omega)) false (by simp [E3.out])))))); (first | refine wpQuiet_end hq hlq ?_ | (go_big_quiet_want; go_big_quiet_op; apply Exists.intro; refine ⟨fun _ => ?_, ?_⟩; (first | (go_at_call 36; exact calls_rg_same (within_any _ _ _ true (by simp; omega) _)) | (go_at_call 55; exact calls_rg (hasDoc_any _ (xs.take j) p _ _ ((HH.out.later hitGood (below_tr (hq _) (by go_grown))).take j (by omega)) false (by simp [E3.out]))))))); clear hcq hlq hq wq; intro wb hbq hcb; simp only [cells_cons, cells_nil, and_true] at hcb
        go_wp2
        go_roundw
        case rel => exact ⟨j + 1, by omega, by go_num, below_tr hbq (by go_grown), fun t ht => by
          obtain rfl : t = j := by omega
          exact fun _ => ⟨e1, by omega, E3.out, fun h => by have := E4.out; omega⟩⟩
        case measure => simp [intOf]; omega
    · clear hat
      by_cases e6 : xs.length ≤ 16
      · go_wp2
        go_ret
        refine ⟨ret_bool ?_, hb⟩
        rw [Bool.eq_iff_iff, HR.out]
        simp
        exact ⟨fun _ => ⟨e6, fun t ht => HQ.out t (by omega) ht⟩, fun _ => by omega⟩
      · go_wp2
        go_ret
        refine ⟨ret_bool ?_, hb⟩
        rw [Bool.eq_iff_iff, HR.out]
        simp
        exact ⟨fun h => by omega, fun h => absurd h.1 e6⟩
end Go.Proofs.Ythodbhjnfeahhaa
