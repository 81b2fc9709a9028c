/- The law FnExactCacheOk returns true for every argument, and turns nothing that was there. -/
import Derived.Test.YthodbhjnfeahhaaL24Ok
set_option linter.unusedSimpArgs false
set_option linter.unusedVariables false
namespace Go.Proofs.Ythodbhjnfeahhaa
open Go.RowKit
set_option maxHeartbeats 4000000 in
theorem exCacheOk_any (aC : DCache) (v0_2 : Value) (p : Blk) (w : World) (hr0_2 : SRep 2 ItemC w v0_2 aC.2.2 p) :
    Calls Try.prog 5 #[.agg #[.int .i64 aC.1, .int .i64 aC.2.1, v0_2]] w fun e w' => e = .returned (.bool true) ∧ Below w.heap.size w w' := by
  have hp0 : Hid (∀ k, (p k ∧ k < w.heap.size) → 0 ≤ k ∧ k < w.heap.size) := fun k hk => ⟨Nat.zero_le _, hk.2⟩
  have Rhr0_2 := Lib.hid (hr0_2.bound itemGood)
  clear hr0_2
  obtain ⟨n0, hn0⟩ : ∃ n : Nat, n = (szDCache aC) := ⟨_, rfl⟩
  have N0 := Lib.hid hn0
  clear hn0
  by_cases c0 : ((n0 : Int) : Int) ≤ 1048576
  rotate_left
  · go_enter Try.func5, Try.ntmps5
    go_wp2_with fail
    refine (szCache_any aC _ _ _ (by omega) (by omega) _ (SRep.later itemGood Rhr0_2.out (by go_grown)) (-1) (by rw [← N0.out]; first | (rw [subM_pos (by omega)]; done) | (rw [subM_pos (by omega)]; omega) | (rw [subM_neg (by omega)]))).mono ?_
    rintro e w1 ⟨rfl, hb1⟩
    have X1 : Below w.heap.size w w1 := below_tr hb1 (by go_grown)
    have B1 : Below w.heap.size w w1 := below_tr X1 (Below.refl _ _)
    have z1 := hb1.size
    try simp only [World.size_alloc, World.size_drew, World.size_setCell] at z1
    have s1_0 : w.heap.size < w1.heap.size := by omega
    have y1_0_0 : w1.cell? ⟨w.heap.size, 0, none⟩ = some (.int .i64 aC.1) := cell_later hb1 (by go_simp)
    have y1_0_1 : w1.cell? ⟨w.heap.size, 1, none⟩ = some (.int .i64 aC.2.1) := cell_later hb1 (by go_simp)
    have y1_0_2 : w1.cell? ⟨w.heap.size, 2, none⟩ = some (v0_2) := cell_later hb1 (by go_simp)
    have r1_0 := Lib.hid (Rhr0_2.out.later itemGood X1)
    clear Rhr0_2
    go_wp2
    go_ret
    exact ⟨rfl, B1⟩
  obtain ⟨r, hr⟩ : ∃ r : Bool, (r = true ↔ CacheOk aC) := ⟨@decide (CacheOk aC) (Classical.propDecidable _), by simp⟩
  have HR := Lib.hid hr
  clear hr
  go_enter Try.func5, Try.ntmps5
  go_wp2_with fail
  refine (szCache_any aC _ _ _ (by omega) (by omega) _ (SRep.later itemGood Rhr0_2.out (by go_grown)) (1048576 - n0) (by rw [← N0.out]; first | (rw [subM_pos (by omega)]; done) | (rw [subM_pos (by omega)]; omega) | (rw [subM_neg (by omega)]))).mono ?_
  rintro e w1 ⟨rfl, hb1⟩
  have X1 : Below w.heap.size w w1 := below_tr hb1 (by go_grown)
  have B1 : Below w.heap.size w w1 := below_tr X1 (Below.refl _ _)
  have z1 := hb1.size
  try simp only [World.size_alloc, World.size_drew, World.size_setCell] at z1
  have s1_0 : w.heap.size < w1.heap.size := by omega
  have y1_0_0 : w1.cell? ⟨w.heap.size, 0, none⟩ = some (.int .i64 aC.1) := cell_later hb1 (by go_simp)
  have y1_0_1 : w1.cell? ⟨w.heap.size, 1, none⟩ = some (.int .i64 aC.2.1) := cell_later hb1 (by go_simp)
  have y1_0_2 : w1.cell? ⟨w.heap.size, 2, none⟩ = some (v0_2) := cell_later hb1 (by go_simp)
  have r1_0 := Lib.hid (Rhr0_2.out.later itemGood X1)
  clear Rhr0_2
  go_wp2_with fail
  refine (toCache_any aC _ _ _ (SRep.later itemGood r1_0.out (by go_grown)) (by have := N0.out; omega)).mono ?_
  rintro e w2 ⟨cs, rfl, ⟨ca0v2, rfl, ca0s2⟩, hb2⟩
  have X2 : Below w1.heap.size w1 w2 := below_tr hb2 (by go_grown)
  have B2 : Below w.heap.size w w2 := below_tr X2 B1
  have z2 := hb2.size
  try simp only [World.size_alloc, World.size_drew, World.size_setCell] at z2
  have s2_0 : w.heap.size < w2.heap.size := by omega
  have y2_0_0 : w2.cell? ⟨w.heap.size, 0, none⟩ = some (.int .i64 aC.1) := cell_later hb2 (by go_simp)
  have y2_0_1 : w2.cell? ⟨w.heap.size, 1, none⟩ = some (.int .i64 aC.2.1) := cell_later hb2 (by go_simp)
  have y2_0_2 : w2.cell? ⟨w.heap.size, 2, none⟩ = some (v0_2) := cell_later hb2 (by go_simp)
  clear y1_0_0 y1_0_1 y1_0_2
  have r2_0 := Lib.hid (r1_0.out.later itemGood X2)
  clear r1_0
  obtain ⟨aca0s2, cca0s2, eca0s2⟩ := ca0s2.shape
  subst eca0s2
  obtain ⟨Qca0s2, hQca0s2, Sca0s2⟩ : ∃ Q : Blk, Hid (∀ k, Q k → w1.heap.size ≤ k ∧ k < w2.heap.size) ∧ Hid (SOwn 2 ItemO w2 (.slice aca0s2 aC.2.2.length cca0s2) aC.2.2 Q) := ⟨_, fun k hk => ⟨by have h1 := hk.1; (try simp only [World.size_alloc, World.size_drew, World.size_setCell] at h1); omega, hk.2⟩, ca0s2.bound itemGoodO⟩
  clear ca0s2
  go_wp2_with fail
  refine (specCacheOk'_any aC _ _ _ (SRep.later itemGood ((Sca0s2.out.rep itemGoodO).imp itemRead) (by go_grown)) (by have := N0.out; omega) r HR.out).mono ?_
  rintro e w3 ⟨rfl, hb3⟩
  have X3 : Below w2.heap.size w2 w3 := below_tr hb3 (by go_grown)
  have B3 : Below w.heap.size w w3 := below_tr X3 B2
  have z3 := hb3.size
  try simp only [World.size_alloc, World.size_drew, World.size_setCell] at z3
  have s3_0 : w.heap.size < w3.heap.size := by omega
  have y3_0_0 : w3.cell? ⟨w.heap.size, 0, none⟩ = some (.int .i64 aC.1) := cell_later hb3 (by go_simp)
  have y3_0_1 : w3.cell? ⟨w.heap.size, 1, none⟩ = some (.int .i64 aC.2.1) := cell_later hb3 (by go_simp)
  have y3_0_2 : w3.cell? ⟨w.heap.size, 2, none⟩ = some (v0_2) := cell_later hb3 (by go_simp)
  clear y2_0_0 y2_0_1 y2_0_2
  have r3_0 := Lib.hid (r2_0.out.later itemGood X3)
  clear r2_0
  have r3_1 := Lib.hid (Sca0s2.out.later itemGoodO X3)
  clear Sca0s2
  go_wp2_with fail
  refine (toCache_any aC _ _ _ (SRep.later itemGood r3_0.out (by go_grown)) (by have := N0.out; omega)).mono ?_
  rintro e w4 ⟨cs, rfl, ⟨xa0v2, rfl, xa0s2⟩, hb4⟩
  have X4 : Below w3.heap.size w3 w4 := below_tr hb4 (by go_grown)
  have B4 : Below w.heap.size w w4 := below_tr X4 B3
  have z4 := hb4.size
  try simp only [World.size_alloc, World.size_drew, World.size_setCell] at z4
  have s4_0 : w.heap.size < w4.heap.size := by omega
  have y4_0_0 : w4.cell? ⟨w.heap.size, 0, none⟩ = some (.int .i64 aC.1) := cell_later hb4 (by go_simp)
  have y4_0_1 : w4.cell? ⟨w.heap.size, 1, none⟩ = some (.int .i64 aC.2.1) := cell_later hb4 (by go_simp)
  have y4_0_2 : w4.cell? ⟨w.heap.size, 2, none⟩ = some (v0_2) := cell_later hb4 (by go_simp)
  clear y3_0_0 y3_0_1 y3_0_2
  have r4_0 := Lib.hid (r3_0.out.later itemGood X4)
  clear r3_0
  have r4_1 := Lib.hid (r3_1.out.later itemGoodO X4)
  clear r3_1
  obtain ⟨axa0s2, cxa0s2, exa0s2⟩ := xa0s2.shape
  subst exa0s2
  obtain ⟨Qxa0s2, hQxa0s2, Sxa0s2⟩ : ∃ Q : Blk, Hid (∀ k, Q k → w3.heap.size ≤ k ∧ k < w4.heap.size) ∧ Hid (SOwn 2 ItemO w4 (.slice axa0s2 aC.2.2.length cxa0s2) aC.2.2 Q) := ⟨_, fun k hk => ⟨by have h1 := hk.1; (try simp only [World.size_alloc, World.size_drew, World.size_setCell] at h1); omega, hk.2⟩, xa0s2.bound itemGoodO⟩
  clear xa0s2
  go_wp2_with fail
  refine (implCacheOk'_any aC _ _ _ (SRep.later itemGood ((Sxa0s2.out.rep itemGoodO).imp itemRead) (by go_grown)) (by have := N0.out; omega) r HR.out).mono ?_
  rintro e w5 ⟨rfl, hb5⟩
  have X5 : Below w4.heap.size w4 w5 := below_tr hb5 (by go_grown)
  have B5 : Below w.heap.size w w5 := below_tr X5 B4
  have z5 := hb5.size
  try simp only [World.size_alloc, World.size_drew, World.size_setCell] at z5
  have s5_0 : w.heap.size < w5.heap.size := by omega
  have y5_0_0 : w5.cell? ⟨w.heap.size, 0, none⟩ = some (.int .i64 aC.1) := cell_later hb5 (by go_simp)
  have y5_0_1 : w5.cell? ⟨w.heap.size, 1, none⟩ = some (.int .i64 aC.2.1) := cell_later hb5 (by go_simp)
  have y5_0_2 : w5.cell? ⟨w.heap.size, 2, none⟩ = some (v0_2) := cell_later hb5 (by go_simp)
  have s5_1 : w4.heap.size < w5.heap.size := by omega
  have y5_1_0 : w5.cell? ⟨w4.heap.size, 0, none⟩ = some (.int .i64 aC.1) := cell_later hb5 (by go_simp)
  have y5_1_1 : w5.cell? ⟨w4.heap.size, 1, none⟩ = some (.int .i64 aC.2.1) := cell_later hb5 (by go_simp)
  have y5_1_2 : w5.cell? ⟨w4.heap.size, 2, none⟩ = some (.slice axa0s2 aC.2.2.length cxa0s2) := cell_later hb5 (by go_simp)
  clear y4_0_0 y4_0_1 y4_0_2
  have r5_0 := Lib.hid (r4_0.out.later itemGood X5)
  clear r4_0
  have r5_1 := Lib.hid (r4_1.out.later itemGoodO X5)
  clear r4_1
  have r5_2 := Lib.hid (Sxa0s2.out.later itemGoodO X5)
  clear Sxa0s2
  go_wp2
  -- ARGS aC
  go_region_held3 (fun w' => w'.cell? ⟨w.heap.size, 0, none⟩ = some (.int .i64 aC.1) ∧ w'.cell? ⟨w.heap.size, 1, none⟩ = some (.int .i64 aC.2.1) ∧ w'.cell? ⟨w.heap.size, 2, none⟩ = some (v0_2) ∧ w'.cell? ⟨w4.heap.size, 0, none⟩ = some (.int .i64 aC.1) ∧ w'.cell? ⟨w4.heap.size, 1, none⟩ = some (.int .i64 aC.2.1) ∧ w'.cell? ⟨w4.heap.size, 2, none⟩ = some (.slice axa0s2 aC.2.2.length cxa0s2)) (first | (go_keep) | rfl | ((repeat' (refine And.intro ?_ ?_)) <;> first | exact cell_later hb7 (cell_later hb6 (by go_simp)) | exact cell_later hb6 (by go_simp))) (first | (go_at_call 20; refine (toCache_any aC _ _ _ (SRep.later itemGood r5_0.out (by go_grown)) (by have := N0.out; omega)).mono ?_; rintro e w6 ⟨cs, rfl, ⟨tv2, rfl, ts2⟩, hb6⟩) | (go_at_call 12; refine (eqCache_any aC aC _ _ _ _ _ (SRep.later itemGood ((r5_2.out.rep itemGoodO).imp itemRead) (below_tr hb6 (by go_grown))) (SRep.later itemGood ((ts2.rep itemGoodO).imp itemRead) (by go_grown)) true (by simp)).mono ?_; rintro e w7 ⟨rfl, hb7⟩))
  have X6 : Below w5.heap.size w5 w6 := below_tr hb6 (by go_grown)
  have B6 : Below w.heap.size w w6 := below_tr X6 B5
  have z6 := hb6.size
  try simp only [World.size_alloc, World.size_drew, World.size_setCell] at z6
  have s6_0 : w.heap.size < w6.heap.size := by omega
  have y6_0_0 : w6.cell? ⟨w.heap.size, 0, none⟩ = some (.int .i64 aC.1) := cell_later hb6 (by go_simp)
  have y6_0_1 : w6.cell? ⟨w.heap.size, 1, none⟩ = some (.int .i64 aC.2.1) := cell_later hb6 (by go_simp)
  have y6_0_2 : w6.cell? ⟨w.heap.size, 2, none⟩ = some (v0_2) := cell_later hb6 (by go_simp)
  have s6_1 : w4.heap.size < w6.heap.size := by omega
  have y6_1_0 : w6.cell? ⟨w4.heap.size, 0, none⟩ = some (.int .i64 aC.1) := cell_later hb6 (by go_simp)
  have y6_1_1 : w6.cell? ⟨w4.heap.size, 1, none⟩ = some (.int .i64 aC.2.1) := cell_later hb6 (by go_simp)
  have y6_1_2 : w6.cell? ⟨w4.heap.size, 2, none⟩ = some (.slice axa0s2 aC.2.2.length cxa0s2) := cell_later hb6 (by go_simp)
  clear y5_0_0 y5_0_1 y5_0_2 y5_1_0 y5_1_1 y5_1_2
  have r6_0 := Lib.hid (r5_0.out.later itemGood X6)
  clear r5_0
  have r6_1 := Lib.hid (r5_1.out.later itemGoodO X6)
  clear r5_1
  have r6_2 := Lib.hid (r5_2.out.later itemGoodO X6)
  clear r5_2
  have X7 : Below w6.heap.size w6 w7 := below_tr hb7 (by go_grown)
  have B7 : Below w.heap.size w w7 := below_tr X7 B6
  have z7 := hb7.size
  try simp only [World.size_alloc, World.size_drew, World.size_setCell] at z7
  have s7_0 : w.heap.size < w7.heap.size := by omega
  have y7_0_0 : w7.cell? ⟨w.heap.size, 0, none⟩ = some (.int .i64 aC.1) := cell_later hb7 (by go_simp)
  have y7_0_1 : w7.cell? ⟨w.heap.size, 1, none⟩ = some (.int .i64 aC.2.1) := cell_later hb7 (by go_simp)
  have y7_0_2 : w7.cell? ⟨w.heap.size, 2, none⟩ = some (v0_2) := cell_later hb7 (by go_simp)
  have s7_1 : w4.heap.size < w7.heap.size := by omega
  have y7_1_0 : w7.cell? ⟨w4.heap.size, 0, none⟩ = some (.int .i64 aC.1) := cell_later hb7 (by go_simp)
  have y7_1_1 : w7.cell? ⟨w4.heap.size, 1, none⟩ = some (.int .i64 aC.2.1) := cell_later hb7 (by go_simp)
  have y7_1_2 : w7.cell? ⟨w4.heap.size, 2, none⟩ = some (.slice axa0s2 aC.2.2.length cxa0s2) := cell_later hb7 (by go_simp)
  clear y6_0_0 y6_0_1 y6_0_2 y6_1_0 y6_1_1 y6_1_2
  have r7_0 := Lib.hid (r6_0.out.later itemGood X7)
  clear r6_0
  have r7_1 := Lib.hid (r6_1.out.later itemGoodO X7)
  clear r6_1
  have r7_2 := Lib.hid (r6_2.out.later itemGoodO X7)
  clear r6_2
  go_wp2
  go_ret
  exact ⟨rfl, B7⟩
end Go.Proofs.Ythodbhjnfeahhaa
