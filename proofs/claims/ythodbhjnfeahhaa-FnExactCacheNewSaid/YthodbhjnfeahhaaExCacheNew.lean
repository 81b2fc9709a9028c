/- The law FnExactCacheNew returns true for every argument, and turns nothing that was there. -/
import Derived.Test.YthodbhjnfeahhaaCacheNew
set_option linter.unusedSimpArgs false
set_option linter.unusedVariables false
namespace Go.Proofs.Ythodbhjnfeahhaa
open Go.RowKit
set_option maxHeartbeats 4000000 in
theorem exCacheNew_any (aMost : Int) (w : World) :
    Calls Try.prog 3 #[.int .i64 aMost] w fun e w' => e = .returned (.bool true) ∧ Below w.heap.size w w' := by
  obtain ⟨r, hr⟩ : ∃ r, r = cacheNew aMost := ⟨_, rfl⟩
  have hcnt : cntL cntDItem r.2.2 ≤ 50000000 := by rw [hr]; exact cacheNew_cnt aMost
  have HR := Lib.hid hr
  clear hr
  go_enter Try.func3, Try.ntmps3
  go_wp2_with fail
  refine (specCacheNew_any aMost _ r HR.out).mono ?_
  rintro e w1 ⟨cs, rfl, ⟨spv2, rfl, sps2⟩, hb1⟩
  have X1 : Below w.heap.size w w1 := below_tr hb1 (by go_grown)
  have B1 : Below w.heap.size w w1 := below_tr X1 (Below.refl _ _)
  have z1 := hb1.size
  try simp only [World.size_alloc, World.size_drew, World.size_setCell] at z1
  obtain ⟨asps2, csps2, esps2⟩ := sps2.shape
  subst esps2
  obtain ⟨Qsp2, hQsp2, Ssps2⟩ : ∃ Q : Blk, Hid (∀ k, Q k → w.heap.size ≤ k ∧ k < w1.heap.size) ∧ Hid (SOwn 2 ItemO w1 (.slice asps2 r.2.2.length csps2) r.2.2 Q) := ⟨_, fun k hk => ⟨by have h1 := hk.1; (try simp only [World.size_alloc, World.size_drew, World.size_setCell] at h1); omega, hk.2⟩, sps2.bound itemGoodO⟩
  clear sps2
  go_wp2_with fail
  refine (implCacheNew_any aMost _ r HR.out).mono ?_
  rintro e w2 ⟨cs, rfl, ⟨imv2, rfl, ims2⟩, hb2⟩
  have X2 : Below w1.heap.size w1 w2 := below_tr hb2 (by go_grown)
  have B2 : Below w.heap.size w w2 := below_tr X2 B1
  have z2 := hb2.size
  try simp only [World.size_alloc, World.size_drew, World.size_setCell] at z2
  have s2_0 : w1.heap.size < w2.heap.size := by omega
  have y2_0_0 : w2.cell? ⟨w1.heap.size, 0, none⟩ = some (.int .i64 r.1) := cell_later hb2 (by go_simp)
  have y2_0_1 : w2.cell? ⟨w1.heap.size, 1, none⟩ = some (.int .i64 r.2.1) := cell_later hb2 (by go_simp)
  have y2_0_2 : w2.cell? ⟨w1.heap.size, 2, none⟩ = some (.slice asps2 r.2.2.length csps2) := cell_later hb2 (by go_simp)
  have r2_0 := Lib.hid (Ssps2.out.later itemGoodO X2)
  clear Ssps2
  obtain ⟨aims2, cims2, eims2⟩ := ims2.shape
  subst eims2
  obtain ⟨Qim2, hQim2, Sims2⟩ : ∃ Q : Blk, Hid (∀ k, Q k → w1.heap.size + 1 ≤ k ∧ k < w2.heap.size) ∧ Hid (SOwn 2 ItemO w2 (.slice aims2 r.2.2.length cims2) r.2.2 Q) := ⟨_, fun k hk => ⟨by have h1 := hk.1; (try simp only [World.size_alloc, World.size_drew, World.size_setCell] at h1); omega, hk.2⟩, ims2.bound itemGoodO⟩
  clear ims2
  go_wp2_with fail
  refine (eqCache_any r r _ _ _ _ _ (SRep.later itemGood ((Sims2.out.rep itemGoodO).imp itemRead) (by go_grown)) (SRep.later itemGood ((r2_0.out.rep itemGoodO).imp itemRead) (by go_grown)) true (by simp)).mono ?_
  rintro e w3 ⟨rfl, hb3⟩
  have X3 : Below w2.heap.size w2 w3 := below_tr hb3 (by go_grown)
  have B3 : Below w.heap.size w w3 := below_tr X3 B2
  have z3 := hb3.size
  try simp only [World.size_alloc, World.size_drew, World.size_setCell] at z3
  have s3_0 : w1.heap.size < w3.heap.size := by omega
  have y3_0_0 : w3.cell? ⟨w1.heap.size, 0, none⟩ = some (.int .i64 r.1) := cell_later hb3 (by go_simp)
  have y3_0_1 : w3.cell? ⟨w1.heap.size, 1, none⟩ = some (.int .i64 r.2.1) := cell_later hb3 (by go_simp)
  have y3_0_2 : w3.cell? ⟨w1.heap.size, 2, none⟩ = some (.slice asps2 r.2.2.length csps2) := cell_later hb3 (by go_simp)
  have s3_1 : w2.heap.size < w3.heap.size := by omega
  have y3_1_0 : w3.cell? ⟨w2.heap.size, 0, none⟩ = some (.int .i64 r.1) := cell_later hb3 (by go_simp)
  have y3_1_1 : w3.cell? ⟨w2.heap.size, 1, none⟩ = some (.int .i64 r.2.1) := cell_later hb3 (by go_simp)
  have y3_1_2 : w3.cell? ⟨w2.heap.size, 2, none⟩ = some (.slice aims2 r.2.2.length cims2) := cell_later hb3 (by go_simp)
  clear y2_0_0 y2_0_1 y2_0_2
  have r3_0 := Lib.hid (r2_0.out.later itemGoodO X3)
  clear r2_0
  have r3_1 := Lib.hid (Sims2.out.later itemGoodO X3)
  clear Sims2
  go_wp2_with fail
  refine (markCache_any r _ Qim2 (1) _ (by omega) (by omega) _ (SOwn.later itemGoodO r3_1.out (by go_grown))).mono ?_
  rintro e w4 ⟨rfl, hb4, om4⟩
  have X4 : Upd Qim2 w3 w4 := (Upd.of_below (by go_grown)).trans hb4
  have B4 : Below w.heap.size w w4 := below_upd B3 X4 B3.size (fun k hk => by have := (hQim2.out k hk).1; have h0 := B3.size; omega)
  have z4 := hb4.size
  try simp only [World.size_alloc, World.size_drew, World.size_setCell] at z4
  have s4_0 : w1.heap.size < w4.heap.size := by omega
  have nb4_0 : ¬ Qim2 (w1.heap.size) := fun hk => by have := hQim2.out _ hk; omega
  have y4_0_0 : w4.cell? ⟨w1.heap.size, 0, none⟩ = some (.int .i64 r.1) := upd_cell hb4 nb4_0 (by go_simp)
  have y4_0_1 : w4.cell? ⟨w1.heap.size, 1, none⟩ = some (.int .i64 r.2.1) := upd_cell hb4 nb4_0 (by go_simp)
  have y4_0_2 : w4.cell? ⟨w1.heap.size, 2, none⟩ = some (.slice asps2 r.2.2.length csps2) := upd_cell hb4 nb4_0 (by go_simp)
  have s4_1 : w2.heap.size < w4.heap.size := by omega
  have nb4_1 : ¬ Qim2 (w2.heap.size) := fun hk => by have := hQim2.out _ hk; omega
  have y4_1_0 : w4.cell? ⟨w2.heap.size, 0, none⟩ = some (.int .i64 r.1) := upd_cell hb4 nb4_1 (by go_simp)
  have y4_1_1 : w4.cell? ⟨w2.heap.size, 1, none⟩ = some (.int .i64 r.2.1) := upd_cell hb4 nb4_1 (by go_simp)
  have y4_1_2 : w4.cell? ⟨w2.heap.size, 2, none⟩ = some (.slice aims2 r.2.2.length cims2) := upd_cell hb4 nb4_1 (by go_simp)
  clear y3_0_0 y3_0_1 y3_0_2 y3_1_0 y3_1_1 y3_1_2
  have r4_0 := Lib.hid (r3_0.out.upd itemGoodO X4 (fun k hk hp => by have h1 := hQsp2.out k hk; have h2 := hQim2.out k hp; omega))
  clear r3_0
  have Hom4 := Lib.hid om4
  clear om4
  go_wp2_with fail
  refine (heldCache_any r _ _ (1) _ (by omega) (by omega) _ (SRep.later itemGood ((Hom4.out.rep itemGoodO).imp itemRead) (by go_grown))).mono ?_
  rintro e w5 ⟨rfl, hb5⟩
  have X5 : Below w4.heap.size w4 w5 := below_tr hb5 (by go_grown)
  have B5 : Below w.heap.size w w5 := below_tr X5 B4
  have z5 := hb5.size
  try simp only [World.size_alloc, World.size_drew, World.size_setCell] at z5
  have s5_0 : w1.heap.size < w5.heap.size := by omega
  have y5_0_0 : w5.cell? ⟨w1.heap.size, 0, none⟩ = some (.int .i64 r.1) := cell_later hb5 (by go_simp)
  have y5_0_1 : w5.cell? ⟨w1.heap.size, 1, none⟩ = some (.int .i64 r.2.1) := cell_later hb5 (by go_simp)
  have y5_0_2 : w5.cell? ⟨w1.heap.size, 2, none⟩ = some (.slice asps2 r.2.2.length csps2) := cell_later hb5 (by go_simp)
  have s5_1 : w2.heap.size < w5.heap.size := by omega
  have y5_1_0 : w5.cell? ⟨w2.heap.size, 0, none⟩ = some (.int .i64 r.1) := cell_later hb5 (by go_simp)
  have y5_1_1 : w5.cell? ⟨w2.heap.size, 1, none⟩ = some (.int .i64 r.2.1) := cell_later hb5 (by go_simp)
  have y5_1_2 : w5.cell? ⟨w2.heap.size, 2, none⟩ = some (.slice aims2 r.2.2.length cims2) := cell_later hb5 (by go_simp)
  clear y4_0_0 y4_0_1 y4_0_2 y4_1_0 y4_1_1 y4_1_2
  have r5_0 := Lib.hid (r4_0.out.later itemGoodO X5)
  clear r4_0
  have r5_1 := Lib.hid (Hom4.out.later itemGoodO X5)
  clear Hom4
  go_wp2_with fail
  refine (implCacheNew_any aMost _ r HR.out).mono ?_
  rintro e w6 ⟨cs, rfl, ⟨hov2, rfl, hos2⟩, hb6⟩
  have X6 : Below w5.heap.size w5 w6 := below_tr hb6 (by go_grown)
  have B6 : Below w.heap.size w w6 := below_tr X6 B5
  have z6 := hb6.size
  try simp only [World.size_alloc, World.size_drew, World.size_setCell] at z6
  have s6_0 : w1.heap.size < w6.heap.size := by omega
  have y6_0_0 : w6.cell? ⟨w1.heap.size, 0, none⟩ = some (.int .i64 r.1) := cell_later hb6 (by go_simp)
  have y6_0_1 : w6.cell? ⟨w1.heap.size, 1, none⟩ = some (.int .i64 r.2.1) := cell_later hb6 (by go_simp)
  have y6_0_2 : w6.cell? ⟨w1.heap.size, 2, none⟩ = some (.slice asps2 r.2.2.length csps2) := cell_later hb6 (by go_simp)
  have s6_1 : w2.heap.size < w6.heap.size := by omega
  have y6_1_0 : w6.cell? ⟨w2.heap.size, 0, none⟩ = some (.int .i64 r.1) := cell_later hb6 (by go_simp)
  have y6_1_1 : w6.cell? ⟨w2.heap.size, 1, none⟩ = some (.int .i64 r.2.1) := cell_later hb6 (by go_simp)
  have y6_1_2 : w6.cell? ⟨w2.heap.size, 2, none⟩ = some (.slice aims2 r.2.2.length cims2) := cell_later hb6 (by go_simp)
  clear y5_0_0 y5_0_1 y5_0_2 y5_1_0 y5_1_1 y5_1_2
  have r6_0 := Lib.hid (r5_0.out.later itemGoodO X6)
  clear r5_0
  have r6_1 := Lib.hid (r5_1.out.later itemGoodO X6)
  clear r5_1
  obtain ⟨ahos2, chos2, ehos2⟩ := hos2.shape
  subst ehos2
  obtain ⟨Qho2, hQho2, Shos2⟩ : ∃ Q : Blk, Hid (∀ k, Q k → w5.heap.size ≤ k ∧ k < w6.heap.size) ∧ Hid (SOwn 2 ItemO w6 (.slice ahos2 r.2.2.length chos2) r.2.2 Q) := ⟨_, fun k hk => ⟨by have h1 := hk.1; (try simp only [World.size_alloc, World.size_drew, World.size_setCell] at h1); omega, hk.2⟩, hos2.bound itemGoodO⟩
  clear hos2
  go_wp2_with fail
  refine (eqCache_any r r _ _ _ _ _ (SRep.later itemGood ((Shos2.out.rep itemGoodO).imp itemRead) (by go_grown)) (SRep.later itemGood ((r6_0.out.rep itemGoodO).imp itemRead) (by go_grown)) true (by simp)).mono ?_
  rintro e w7 ⟨rfl, hb7⟩
  have X7 : Below w6.heap.size w6 w7 := below_tr hb7 (by go_grown)
  have B7 : Below w.heap.size w w7 := below_tr X7 B6
  have z7 := hb7.size
  try simp only [World.size_alloc, World.size_drew, World.size_setCell] at z7
  have s7_0 : w1.heap.size < w7.heap.size := by omega
  have y7_0_0 : w7.cell? ⟨w1.heap.size, 0, none⟩ = some (.int .i64 r.1) := cell_later hb7 (by go_simp)
  have y7_0_1 : w7.cell? ⟨w1.heap.size, 1, none⟩ = some (.int .i64 r.2.1) := cell_later hb7 (by go_simp)
  have y7_0_2 : w7.cell? ⟨w1.heap.size, 2, none⟩ = some (.slice asps2 r.2.2.length csps2) := cell_later hb7 (by go_simp)
  have s7_1 : w2.heap.size < w7.heap.size := by omega
  have y7_1_0 : w7.cell? ⟨w2.heap.size, 0, none⟩ = some (.int .i64 r.1) := cell_later hb7 (by go_simp)
  have y7_1_1 : w7.cell? ⟨w2.heap.size, 1, none⟩ = some (.int .i64 r.2.1) := cell_later hb7 (by go_simp)
  have y7_1_2 : w7.cell? ⟨w2.heap.size, 2, none⟩ = some (.slice aims2 r.2.2.length cims2) := cell_later hb7 (by go_simp)
  have s7_2 : w6.heap.size < w7.heap.size := by omega
  have y7_2_0 : w7.cell? ⟨w6.heap.size, 0, none⟩ = some (.int .i64 r.1) := cell_later hb7 (by go_simp)
  have y7_2_1 : w7.cell? ⟨w6.heap.size, 1, none⟩ = some (.int .i64 r.2.1) := cell_later hb7 (by go_simp)
  have y7_2_2 : w7.cell? ⟨w6.heap.size, 2, none⟩ = some (.slice ahos2 r.2.2.length chos2) := cell_later hb7 (by go_simp)
  clear y6_0_0 y6_0_1 y6_0_2 y6_1_0 y6_1_1 y6_1_2
  have r7_0 := Lib.hid (r6_0.out.later itemGoodO X7)
  clear r6_0
  have r7_1 := Lib.hid (r6_1.out.later itemGoodO X7)
  clear r6_1
  have r7_2 := Lib.hid (Shos2.out.later itemGoodO X7)
  clear Shos2
  go_wp2_with fail
  refine (heldCache_any r _ _ (1) _ (by omega) (by omega) _ (SRep.later itemGood ((r7_1.out.rep itemGoodO).imp itemRead) (by go_grown))).mono ?_
  rintro e w8 ⟨rfl, hb8⟩
  have X8 : Below w7.heap.size w7 w8 := below_tr hb8 (by go_grown)
  have B8 : Below w.heap.size w w8 := below_tr X8 B7
  have z8 := hb8.size
  try simp only [World.size_alloc, World.size_drew, World.size_setCell] at z8
  have s8_0 : w1.heap.size < w8.heap.size := by omega
  have y8_0_0 : w8.cell? ⟨w1.heap.size, 0, none⟩ = some (.int .i64 r.1) := cell_later hb8 (by go_simp)
  have y8_0_1 : w8.cell? ⟨w1.heap.size, 1, none⟩ = some (.int .i64 r.2.1) := cell_later hb8 (by go_simp)
  have y8_0_2 : w8.cell? ⟨w1.heap.size, 2, none⟩ = some (.slice asps2 r.2.2.length csps2) := cell_later hb8 (by go_simp)
  have s8_1 : w2.heap.size < w8.heap.size := by omega
  have y8_1_0 : w8.cell? ⟨w2.heap.size, 0, none⟩ = some (.int .i64 r.1) := cell_later hb8 (by go_simp)
  have y8_1_1 : w8.cell? ⟨w2.heap.size, 1, none⟩ = some (.int .i64 r.2.1) := cell_later hb8 (by go_simp)
  have y8_1_2 : w8.cell? ⟨w2.heap.size, 2, none⟩ = some (.slice aims2 r.2.2.length cims2) := cell_later hb8 (by go_simp)
  have s8_2 : w6.heap.size < w8.heap.size := by omega
  have y8_2_0 : w8.cell? ⟨w6.heap.size, 0, none⟩ = some (.int .i64 r.1) := cell_later hb8 (by go_simp)
  have y8_2_1 : w8.cell? ⟨w6.heap.size, 1, none⟩ = some (.int .i64 r.2.1) := cell_later hb8 (by go_simp)
  have y8_2_2 : w8.cell? ⟨w6.heap.size, 2, none⟩ = some (.slice ahos2 r.2.2.length chos2) := cell_later hb8 (by go_simp)
  clear y7_0_0 y7_0_1 y7_0_2 y7_1_0 y7_1_1 y7_1_2 y7_2_0 y7_2_1 y7_2_2
  have r8_0 := Lib.hid (r7_0.out.later itemGoodO X8)
  clear r7_0
  have r8_1 := Lib.hid (r7_1.out.later itemGoodO X8)
  clear r7_1
  have r8_2 := Lib.hid (r7_2.out.later itemGoodO X8)
  clear r7_2
  go_wp2
  go_ret
  exact ⟨rfl, B8⟩
end Go.Proofs.Ythodbhjnfeahhaa
