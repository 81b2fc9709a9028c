import Derived.Test.YtcjbjmbialienaaGreatG1A
set_option linter.unusedVariables false
set_option linter.unusedSimpArgs false
namespace Go.Proofs.YtcjbjmbialienaaGreat
open Go.RowKit
def k_slices_partitionCmpFunc_912_arg : Sh := ⟨[.mtk 800000 (.pair .str (.pair .str (.sl (.pair (.int .i64) (.sl (.int .i64)))))) 66 false, .pv (.int .i64), .pv (.int .i64), .pv (.int .i64), .clo 68 []], []⟩
def k_slices_partitionCmpFunc_912_ret : Sh := ⟨[.tup [.pv (.int .i64), .pv .bool], .mtk 800000 (.pair .str (.pair .str (.sl (.pair (.int .i64) (.sl (.int .i64)))))) 66 false], []⟩
def k_slices_partitionCmpFunc_912_s1 : Sh := ⟨.mtk 800000 Y3 66 false :: .pv (.int .i64) :: .dead :: .dead :: .clo 68 [] :: dz 7 (.pv (.int .i64) :: .pv (.int .i64) :: dz 164 []), []⟩
def k_slices_partitionCmpFunc_912_s2 : Sh := ⟨.mtk 800000 Y3 66 false :: .pv (.int .i64) :: .dead :: .dead :: .clo 68 [] :: dz 7 (.pv (.int .i64) :: .pv (.int .i64) :: dz 164 []), []⟩
def k_slices_partitionCmpFunc_912_s3 : Sh := ⟨.mtk 800000 Y3 66 false :: .pv (.int .i64) :: .dead :: .dead :: .clo 68 [] :: dz 7 (.pv (.int .i64) :: .pv (.int .i64) :: dz 164 []), []⟩
def k_slices_partitionCmpFunc_912_s4 : Sh := ⟨.mtk 800000 Y3 66 false :: .pv (.int .i64) :: .dead :: .dead :: .clo 68 [] :: dz 7 (.pv (.int .i64) :: .pv (.int .i64) :: dz 164 []), []⟩
def k_slices_partitionCmpFunc_912_s5 : Sh := ⟨.mtk 800000 Y3 66 false :: .pv (.int .i64) :: .dead :: .dead :: .clo 68 [] :: dz 7 (.pv (.int .i64) :: .pv (.int .i64) :: dz 164 []), []⟩
def k_slices_partitionCmpFunc_912_h : Hint := (.seq .no (.seq .no (.seq .no (.seq (.block (.loop k_slices_partitionCmpFunc_912_s1 .no)) (.seq (.block (.loop k_slices_partitionCmpFunc_912_s2 .no)) (.seq .no (.seq .no (.seq .no (.seq .no (.seq (.block (.loop k_slices_partitionCmpFunc_912_s3 (.block (.seq (.block (.loop k_slices_partitionCmpFunc_912_s4 .no)) (.seq (.block (.loop k_slices_partitionCmpFunc_912_s5 .no)) .no))))) .no))))))))))
def k_slices_partitionCmpFunc_912_m (N : Nat) (data : List ((List UInt8) × (List UInt8) × (List (Int × (List Int))))) (a : Int) (b : Int) (pivot : Int) (cmp : Unit) : Option (Int × Bool × (List ((List UInt8) × (List UInt8) × (List (Int × (List Int)))))) :=
 (if 0 ≤ pivot ∧ pivot < (data.length : Int) then
 (Option.bind (data[pivot.toNat]?) fun e =>
 (if 0 ≤ a ∧ a < (data.length : Int) then
 (Option.bind (data[a.toNat]?) fun e2 =>
 (if 0 ≤ a ∧ a < (data.length : Int) then
 (Option.bind (data[a.toNat]?) fun e3 =>
 (if 0 ≤ pivot ∧ pivot < ((data.set a.toNat e).length : Int) then
 (Option.bind ((data.set a.toNat e)[pivot.toNat]?) fun e4 =>
 (if fits (a + 1) then (if fits (b - 1) then (iter (fun go (g : (List ((List UInt8) × (List UInt8) × (List (Int × (List Int))))) × Int × Unit × Int × Int) =>
 match g with
 | (data2, a2, cmp2, i, j) =>
 (bif (decide (i ≤ j)) then
 (if 0 ≤ i ∧ i < (data2.length : Int) then
 (Option.bind (data2[i.toNat]?) fun e5 =>
 (if 0 ≤ a2 ∧ a2 < (data2.length : Int) then
 (Option.bind (data2[a2.toNat]?) fun e6 =>
 (Option.bind (i_SegOf_1_m N e5.1 e5.2.1 e5.2.2 e6.1 e6.2.1 e6.2.2) fun r =>
 (bif (decide (r < 0)) then
 (if fits (i + 1) then (go (data2, a2, (), (i + 1), j)) else none)
 else
 (iter (fun go2 (g : (List ((List UInt8) × (List UInt8) × (List (Int × (List Int))))) × Int × Unit × Int × Int) =>
 match g with
 | (data3, a3, cmp3, i2, j2) =>
 (bif (decide (i2 ≤ j2)) then
 (if 0 ≤ j2 ∧ j2 < (data3.length : Int) then
 (Option.bind (data3[j2.toNat]?) fun e7 =>
 (if 0 ≤ a3 ∧ a3 < (data3.length : Int) then
 (Option.bind (data3[a3.toNat]?) fun e8 =>
 (Option.bind (i_SegOf_1_m N e7.1 e7.2.1 e7.2.2 e8.1 e8.2.1 e8.2.2) fun r2 =>
 (bif (!(decide (r2 < 0))) then
 (if fits (j2 - 1) then (go2 (data3, a3, (), i2, (j2 - 1))) else none)
 else
 (bif (decide (j2 < i2)) then
 (if 0 ≤ a3 ∧ a3 < (data3.length : Int) then
 (Option.bind (data3[a3.toNat]?) fun e9 =>
 (if 0 ≤ j2 ∧ j2 < (data3.length : Int) then
 (Option.bind (data3[j2.toNat]?) fun e10 =>
 (if 0 ≤ j2 ∧ j2 < (data3.length : Int) then
 (Option.bind (data3[j2.toNat]?) fun e11 =>
 (if 0 ≤ a3 ∧ a3 < ((data3.set j2.toNat e9).length : Int) then
 (Option.bind ((data3.set j2.toNat e9)[a3.toNat]?) fun e12 =>
 (some (j2, true, ((data3.set j2.toNat e9).set a3.toNat e10))))
 else none))
 else none))
 else none))
 else none)
 else
 (if 0 ≤ j2 ∧ j2 < (data3.length : Int) then
 (Option.bind (data3[j2.toNat]?) fun e13 =>
 (if 0 ≤ i2 ∧ i2 < (data3.length : Int) then
 (Option.bind (data3[i2.toNat]?) fun e14 =>
 (if 0 ≤ i2 ∧ i2 < (data3.length : Int) then
 (Option.bind (data3[i2.toNat]?) fun e15 =>
 (if 0 ≤ j2 ∧ j2 < ((data3.set i2.toNat e13).length : Int) then
 (Option.bind ((data3.set i2.toNat e13)[j2.toNat]?) fun e16 =>
 (if fits (i2 + 1) then (if fits (j2 - 1) then (iter (fun go3 (g : (List ((List UInt8) × (List UInt8) × (List (Int × (List Int))))) × Int × Unit × Int × Int) =>
 match g with
 | (data4, a4, cmp4, i3, j3) =>
 (iter (fun go4 (g : (List ((List UInt8) × (List UInt8) × (List (Int × (List Int))))) × Int × Unit × Int × Int) =>
 match g with
 | (data5, a5, cmp5, i4, j4) =>
 (bif (decide (i4 ≤ j4)) then
 (if 0 ≤ i4 ∧ i4 < (data5.length : Int) then
 (Option.bind (data5[i4.toNat]?) fun e17 =>
 (if 0 ≤ a5 ∧ a5 < (data5.length : Int) then
 (Option.bind (data5[a5.toNat]?) fun e18 =>
 (Option.bind (i_SegOf_1_m N e17.1 e17.2.1 e17.2.2 e18.1 e18.2.1 e18.2.2) fun r3 =>
 (bif (decide (r3 < 0)) then
 (if fits (i4 + 1) then (go4 (data5, a5, (), (i4 + 1), j4)) else none)
 else
 (iter (fun go5 (g : (List ((List UInt8) × (List UInt8) × (List (Int × (List Int))))) × Int × Unit × Int × Int) =>
 match g with
 | (data6, a6, cmp6, i5, j5) =>
 (bif (decide (i5 ≤ j5)) then
 (if 0 ≤ j5 ∧ j5 < (data6.length : Int) then
 (Option.bind (data6[j5.toNat]?) fun e19 =>
 (if 0 ≤ a6 ∧ a6 < (data6.length : Int) then
 (Option.bind (data6[a6.toNat]?) fun e20 =>
 (Option.bind (i_SegOf_1_m N e19.1 e19.2.1 e19.2.2 e20.1 e20.2.1 e20.2.2) fun r4 =>
 (bif (!(decide (r4 < 0))) then
 (if fits (j5 - 1) then (go5 (data6, a6, (), i5, (j5 - 1))) else none)
 else
 (bif (decide (j5 < i5)) then
 (if 0 ≤ a6 ∧ a6 < (data6.length : Int) then
 (Option.bind (data6[a6.toNat]?) fun e21 =>
 (if 0 ≤ j5 ∧ j5 < (data6.length : Int) then
 (Option.bind (data6[j5.toNat]?) fun e22 =>
 (if 0 ≤ j5 ∧ j5 < (data6.length : Int) then
 (Option.bind (data6[j5.toNat]?) fun e23 =>
 (if 0 ≤ a6 ∧ a6 < ((data6.set j5.toNat e21).length : Int) then
 (Option.bind ((data6.set j5.toNat e21)[a6.toNat]?) fun e24 =>
 (some (j5, false, ((data6.set j5.toNat e21).set a6.toNat e22))))
 else none))
 else none))
 else none))
 else none)
 else
 (if 0 ≤ j5 ∧ j5 < (data6.length : Int) then
 (Option.bind (data6[j5.toNat]?) fun e25 =>
 (if 0 ≤ i5 ∧ i5 < (data6.length : Int) then
 (Option.bind (data6[i5.toNat]?) fun e26 =>
 (if 0 ≤ i5 ∧ i5 < (data6.length : Int) then
 (Option.bind (data6[i5.toNat]?) fun e27 =>
 (if 0 ≤ j5 ∧ j5 < ((data6.set i5.toNat e25).length : Int) then
 (Option.bind ((data6.set i5.toNat e25)[j5.toNat]?) fun e28 =>
 (if fits (i5 + 1) then (if fits (j5 - 1) then (go3 (((data6.set i5.toNat e25).set j5.toNat e26), a6, (), (i5 + 1), (j5 - 1))) else none) else none))
 else none))
 else none))
 else none))
 else none)))))
 else none))
 else none)
 else
 (bif (decide (j5 < i5)) then
 (if 0 ≤ a6 ∧ a6 < (data6.length : Int) then
 (Option.bind (data6[a6.toNat]?) fun e29 =>
 (if 0 ≤ j5 ∧ j5 < (data6.length : Int) then
 (Option.bind (data6[j5.toNat]?) fun e30 =>
 (if 0 ≤ j5 ∧ j5 < (data6.length : Int) then
 (Option.bind (data6[j5.toNat]?) fun e31 =>
 (if 0 ≤ a6 ∧ a6 < ((data6.set j5.toNat e29).length : Int) then
 (Option.bind ((data6.set j5.toNat e29)[a6.toNat]?) fun e32 =>
 (some (j5, false, ((data6.set j5.toNat e29).set a6.toNat e30))))
 else none))
 else none))
 else none))
 else none)
 else
 (if 0 ≤ j5 ∧ j5 < (data6.length : Int) then
 (Option.bind (data6[j5.toNat]?) fun e33 =>
 (if 0 ≤ i5 ∧ i5 < (data6.length : Int) then
 (Option.bind (data6[i5.toNat]?) fun e34 =>
 (if 0 ≤ i5 ∧ i5 < (data6.length : Int) then
 (Option.bind (data6[i5.toNat]?) fun e35 =>
 (if 0 ≤ j5 ∧ j5 < ((data6.set i5.toNat e33).length : Int) then
 (Option.bind ((data6.set i5.toNat e33)[j5.toNat]?) fun e36 =>
 (if fits (i5 + 1) then (if fits (j5 - 1) then (go3 (((data6.set i5.toNat e33).set j5.toNat e34), a6, (), (i5 + 1), (j5 - 1))) else none) else none))
 else none))
 else none))
 else none))
 else none)))) N (data5, a5, (), i4, j4)))))
 else none))
 else none)
 else
 (iter (fun go6 (g : (List ((List UInt8) × (List UInt8) × (List (Int × (List Int))))) × Int × Unit × Int × Int) =>
 match g with
 | (data7, a7, cmp7, i6, j6) =>
 (bif (decide (i6 ≤ j6)) then
 (if 0 ≤ j6 ∧ j6 < (data7.length : Int) then
 (Option.bind (data7[j6.toNat]?) fun e37 =>
 (if 0 ≤ a7 ∧ a7 < (data7.length : Int) then
 (Option.bind (data7[a7.toNat]?) fun e38 =>
 (Option.bind (i_SegOf_1_m N e37.1 e37.2.1 e37.2.2 e38.1 e38.2.1 e38.2.2) fun r5 =>
 (bif (!(decide (r5 < 0))) then
 (if fits (j6 - 1) then (go6 (data7, a7, (), i6, (j6 - 1))) else none)
 else
 (bif (decide (j6 < i6)) then
 (if 0 ≤ a7 ∧ a7 < (data7.length : Int) then
 (Option.bind (data7[a7.toNat]?) fun e39 =>
 (if 0 ≤ j6 ∧ j6 < (data7.length : Int) then
 (Option.bind (data7[j6.toNat]?) fun e40 =>
 (if 0 ≤ j6 ∧ j6 < (data7.length : Int) then
 (Option.bind (data7[j6.toNat]?) fun e41 =>
 (if 0 ≤ a7 ∧ a7 < ((data7.set j6.toNat e39).length : Int) then
 (Option.bind ((data7.set j6.toNat e39)[a7.toNat]?) fun e42 =>
 (some (j6, false, ((data7.set j6.toNat e39).set a7.toNat e40))))
 else none))
 else none))
 else none))
 else none)
 else
 (if 0 ≤ j6 ∧ j6 < (data7.length : Int) then
 (Option.bind (data7[j6.toNat]?) fun e43 =>
 (if 0 ≤ i6 ∧ i6 < (data7.length : Int) then
 (Option.bind (data7[i6.toNat]?) fun e44 =>
 (if 0 ≤ i6 ∧ i6 < (data7.length : Int) then
 (Option.bind (data7[i6.toNat]?) fun e45 =>
 (if 0 ≤ j6 ∧ j6 < ((data7.set i6.toNat e43).length : Int) then
 (Option.bind ((data7.set i6.toNat e43)[j6.toNat]?) fun e46 =>
 (if fits (i6 + 1) then (if fits (j6 - 1) then (go3 (((data7.set i6.toNat e43).set j6.toNat e44), a7, (), (i6 + 1), (j6 - 1))) else none) else none))
 else none))
 else none))
 else none))
 else none)))))
 else none))
 else none)
 else
 (bif (decide (j6 < i6)) then
 (if 0 ≤ a7 ∧ a7 < (data7.length : Int) then
 (Option.bind (data7[a7.toNat]?) fun e47 =>
 (if 0 ≤ j6 ∧ j6 < (data7.length : Int) then
 (Option.bind (data7[j6.toNat]?) fun e48 =>
 (if 0 ≤ j6 ∧ j6 < (data7.length : Int) then
 (Option.bind (data7[j6.toNat]?) fun e49 =>
 (if 0 ≤ a7 ∧ a7 < ((data7.set j6.toNat e47).length : Int) then
 (Option.bind ((data7.set j6.toNat e47)[a7.toNat]?) fun e50 =>
 (some (j6, false, ((data7.set j6.toNat e47).set a7.toNat e48))))
 else none))
 else none))
 else none))
 else none)
 else
 (if 0 ≤ j6 ∧ j6 < (data7.length : Int) then
 (Option.bind (data7[j6.toNat]?) fun e51 =>
 (if 0 ≤ i6 ∧ i6 < (data7.length : Int) then
 (Option.bind (data7[i6.toNat]?) fun e52 =>
 (if 0 ≤ i6 ∧ i6 < (data7.length : Int) then
 (Option.bind (data7[i6.toNat]?) fun e53 =>
 (if 0 ≤ j6 ∧ j6 < ((data7.set i6.toNat e51).length : Int) then
 (Option.bind ((data7.set i6.toNat e51)[j6.toNat]?) fun e54 =>
 (if fits (i6 + 1) then (if fits (j6 - 1) then (go3 (((data7.set i6.toNat e51).set j6.toNat e52), a7, (), (i6 + 1), (j6 - 1))) else none) else none))
 else none))
 else none))
 else none))
 else none)))) N (data5, a5, (), i4, j4)))) N (data4, a4, (), i3, j3))) N (((data3.set i2.toNat e13).set j2.toNat e14), a3, (), (i2 + 1), (j2 - 1))) else none) else none))
 else none))
 else none))
 else none))
 else none)))))
 else none))
 else none)
 else
 (bif (decide (j2 < i2)) then
 (if 0 ≤ a3 ∧ a3 < (data3.length : Int) then
 (Option.bind (data3[a3.toNat]?) fun e55 =>
 (if 0 ≤ j2 ∧ j2 < (data3.length : Int) then
 (Option.bind (data3[j2.toNat]?) fun e56 =>
 (if 0 ≤ j2 ∧ j2 < (data3.length : Int) then
 (Option.bind (data3[j2.toNat]?) fun e57 =>
 (if 0 ≤ a3 ∧ a3 < ((data3.set j2.toNat e55).length : Int) then
 (Option.bind ((data3.set j2.toNat e55)[a3.toNat]?) fun e58 =>
 (some (j2, true, ((data3.set j2.toNat e55).set a3.toNat e56))))
 else none))
 else none))
 else none))
 else none)
 else
 (if 0 ≤ j2 ∧ j2 < (data3.length : Int) then
 (Option.bind (data3[j2.toNat]?) fun e59 =>
 (if 0 ≤ i2 ∧ i2 < (data3.length : Int) then
 (Option.bind (data3[i2.toNat]?) fun e60 =>
 (if 0 ≤ i2 ∧ i2 < (data3.length : Int) then
 (Option.bind (data3[i2.toNat]?) fun e61 =>
 (if 0 ≤ j2 ∧ j2 < ((data3.set i2.toNat e59).length : Int) then
 (Option.bind ((data3.set i2.toNat e59)[j2.toNat]?) fun e62 =>
 (if fits (i2 + 1) then (if fits (j2 - 1) then (iter (fun go7 (g : (List ((List UInt8) × (List UInt8) × (List (Int × (List Int))))) × Int × Unit × Int × Int) =>
 match g with
 | (data8, a8, cmp8, i7, j7) =>
 (iter (fun go8 (g : (List ((List UInt8) × (List UInt8) × (List (Int × (List Int))))) × Int × Unit × Int × Int) =>
 match g with
 | (data9, a9, cmp9, i8, j8) =>
 (bif (decide (i8 ≤ j8)) then
 (if 0 ≤ i8 ∧ i8 < (data9.length : Int) then
 (Option.bind (data9[i8.toNat]?) fun e63 =>
 (if 0 ≤ a9 ∧ a9 < (data9.length : Int) then
 (Option.bind (data9[a9.toNat]?) fun e64 =>
 (Option.bind (i_SegOf_1_m N e63.1 e63.2.1 e63.2.2 e64.1 e64.2.1 e64.2.2) fun r6 =>
 (bif (decide (r6 < 0)) then
 (if fits (i8 + 1) then (go8 (data9, a9, (), (i8 + 1), j8)) else none)
 else
 (iter (fun go9 (g : (List ((List UInt8) × (List UInt8) × (List (Int × (List Int))))) × Int × Unit × Int × Int) =>
 match g with
 | (data10, a10, cmp10, i9, j9) =>
 (bif (decide (i9 ≤ j9)) then
 (if 0 ≤ j9 ∧ j9 < (data10.length : Int) then
 (Option.bind (data10[j9.toNat]?) fun e65 =>
 (if 0 ≤ a10 ∧ a10 < (data10.length : Int) then
 (Option.bind (data10[a10.toNat]?) fun e66 =>
 (Option.bind (i_SegOf_1_m N e65.1 e65.2.1 e65.2.2 e66.1 e66.2.1 e66.2.2) fun r7 =>
 (bif (!(decide (r7 < 0))) then
 (if fits (j9 - 1) then (go9 (data10, a10, (), i9, (j9 - 1))) else none)
 else
 (bif (decide (j9 < i9)) then
 (if 0 ≤ a10 ∧ a10 < (data10.length : Int) then
 (Option.bind (data10[a10.toNat]?) fun e67 =>
 (if 0 ≤ j9 ∧ j9 < (data10.length : Int) then
 (Option.bind (data10[j9.toNat]?) fun e68 =>
 (if 0 ≤ j9 ∧ j9 < (data10.length : Int) then
 (Option.bind (data10[j9.toNat]?) fun e69 =>
 (if 0 ≤ a10 ∧ a10 < ((data10.set j9.toNat e67).length : Int) then
 (Option.bind ((data10.set j9.toNat e67)[a10.toNat]?) fun e70 =>
 (some (j9, false, ((data10.set j9.toNat e67).set a10.toNat e68))))
 else none))
 else none))
 else none))
 else none)
 else
 (if 0 ≤ j9 ∧ j9 < (data10.length : Int) then
 (Option.bind (data10[j9.toNat]?) fun e71 =>
 (if 0 ≤ i9 ∧ i9 < (data10.length : Int) then
 (Option.bind (data10[i9.toNat]?) fun e72 =>
 (if 0 ≤ i9 ∧ i9 < (data10.length : Int) then
 (Option.bind (data10[i9.toNat]?) fun e73 =>
 (if 0 ≤ j9 ∧ j9 < ((data10.set i9.toNat e71).length : Int) then
 (Option.bind ((data10.set i9.toNat e71)[j9.toNat]?) fun e74 =>
 (if fits (i9 + 1) then (if fits (j9 - 1) then (go7 (((data10.set i9.toNat e71).set j9.toNat e72), a10, (), (i9 + 1), (j9 - 1))) else none) else none))
 else none))
 else none))
 else none))
 else none)))))
 else none))
 else none)
 else
 (bif (decide (j9 < i9)) then
 (if 0 ≤ a10 ∧ a10 < (data10.length : Int) then
 (Option.bind (data10[a10.toNat]?) fun e75 =>
 (if 0 ≤ j9 ∧ j9 < (data10.length : Int) then
 (Option.bind (data10[j9.toNat]?) fun e76 =>
 (if 0 ≤ j9 ∧ j9 < (data10.length : Int) then
 (Option.bind (data10[j9.toNat]?) fun e77 =>
 (if 0 ≤ a10 ∧ a10 < ((data10.set j9.toNat e75).length : Int) then
 (Option.bind ((data10.set j9.toNat e75)[a10.toNat]?) fun e78 =>
 (some (j9, false, ((data10.set j9.toNat e75).set a10.toNat e76))))
 else none))
 else none))
 else none))
 else none)
 else
 (if 0 ≤ j9 ∧ j9 < (data10.length : Int) then
 (Option.bind (data10[j9.toNat]?) fun e79 =>
 (if 0 ≤ i9 ∧ i9 < (data10.length : Int) then
 (Option.bind (data10[i9.toNat]?) fun e80 =>
 (if 0 ≤ i9 ∧ i9 < (data10.length : Int) then
 (Option.bind (data10[i9.toNat]?) fun e81 =>
 (if 0 ≤ j9 ∧ j9 < ((data10.set i9.toNat e79).length : Int) then
 (Option.bind ((data10.set i9.toNat e79)[j9.toNat]?) fun e82 =>
 (if fits (i9 + 1) then (if fits (j9 - 1) then (go7 (((data10.set i9.toNat e79).set j9.toNat e80), a10, (), (i9 + 1), (j9 - 1))) else none) else none))
 else none))
 else none))
 else none))
 else none)))) N (data9, a9, (), i8, j8)))))
 else none))
 else none)
 else
 (iter (fun go10 (g : (List ((List UInt8) × (List UInt8) × (List (Int × (List Int))))) × Int × Unit × Int × Int) =>
 match g with
 | (data11, a11, cmp11, i10, j10) =>
 (bif (decide (i10 ≤ j10)) then
 (if 0 ≤ j10 ∧ j10 < (data11.length : Int) then
 (Option.bind (data11[j10.toNat]?) fun e83 =>
 (if 0 ≤ a11 ∧ a11 < (data11.length : Int) then
 (Option.bind (data11[a11.toNat]?) fun e84 =>
 (Option.bind (i_SegOf_1_m N e83.1 e83.2.1 e83.2.2 e84.1 e84.2.1 e84.2.2) fun r8 =>
 (bif (!(decide (r8 < 0))) then
 (if fits (j10 - 1) then (go10 (data11, a11, (), i10, (j10 - 1))) else none)
 else
 (bif (decide (j10 < i10)) then
 (if 0 ≤ a11 ∧ a11 < (data11.length : Int) then
 (Option.bind (data11[a11.toNat]?) fun e85 =>
 (if 0 ≤ j10 ∧ j10 < (data11.length : Int) then
 (Option.bind (data11[j10.toNat]?) fun e86 =>
 (if 0 ≤ j10 ∧ j10 < (data11.length : Int) then
 (Option.bind (data11[j10.toNat]?) fun e87 =>
 (if 0 ≤ a11 ∧ a11 < ((data11.set j10.toNat e85).length : Int) then
 (Option.bind ((data11.set j10.toNat e85)[a11.toNat]?) fun e88 =>
 (some (j10, false, ((data11.set j10.toNat e85).set a11.toNat e86))))
 else none))
 else none))
 else none))
 else none)
 else
 (if 0 ≤ j10 ∧ j10 < (data11.length : Int) then
 (Option.bind (data11[j10.toNat]?) fun e89 =>
 (if 0 ≤ i10 ∧ i10 < (data11.length : Int) then
 (Option.bind (data11[i10.toNat]?) fun e90 =>
 (if 0 ≤ i10 ∧ i10 < (data11.length : Int) then
 (Option.bind (data11[i10.toNat]?) fun e91 =>
 (if 0 ≤ j10 ∧ j10 < ((data11.set i10.toNat e89).length : Int) then
 (Option.bind ((data11.set i10.toNat e89)[j10.toNat]?) fun e92 =>
 (if fits (i10 + 1) then (if fits (j10 - 1) then (go7 (((data11.set i10.toNat e89).set j10.toNat e90), a11, (), (i10 + 1), (j10 - 1))) else none) else none))
 else none))
 else none))
 else none))
 else none)))))
 else none))
 else none)
 else
 (bif (decide (j10 < i10)) then
 (if 0 ≤ a11 ∧ a11 < (data11.length : Int) then
 (Option.bind (data11[a11.toNat]?) fun e93 =>
 (if 0 ≤ j10 ∧ j10 < (data11.length : Int) then
 (Option.bind (data11[j10.toNat]?) fun e94 =>
 (if 0 ≤ j10 ∧ j10 < (data11.length : Int) then
 (Option.bind (data11[j10.toNat]?) fun e95 =>
 (if 0 ≤ a11 ∧ a11 < ((data11.set j10.toNat e93).length : Int) then
 (Option.bind ((data11.set j10.toNat e93)[a11.toNat]?) fun e96 =>
 (some (j10, false, ((data11.set j10.toNat e93).set a11.toNat e94))))
 else none))
 else none))
 else none))
 else none)
 else
 (if 0 ≤ j10 ∧ j10 < (data11.length : Int) then
 (Option.bind (data11[j10.toNat]?) fun e97 =>
 (if 0 ≤ i10 ∧ i10 < (data11.length : Int) then
 (Option.bind (data11[i10.toNat]?) fun e98 =>
 (if 0 ≤ i10 ∧ i10 < (data11.length : Int) then
 (Option.bind (data11[i10.toNat]?) fun e99 =>
 (if 0 ≤ j10 ∧ j10 < ((data11.set i10.toNat e97).length : Int) then
 (Option.bind ((data11.set i10.toNat e97)[j10.toNat]?) fun e100 =>
 (if fits (i10 + 1) then (if fits (j10 - 1) then (go7 (((data11.set i10.toNat e97).set j10.toNat e98), a11, (), (i10 + 1), (j10 - 1))) else none) else none))
 else none))
 else none))
 else none))
 else none)))) N (data9, a9, (), i8, j8)))) N (data8, a8, (), i7, j7))) N (((data3.set i2.toNat e59).set j2.toNat e60), a3, (), (i2 + 1), (j2 - 1))) else none) else none))
 else none))
 else none))
 else none))
 else none)))) N (data2, a2, (), i, j)))))
 else none))
 else none)
 else
 (iter (fun go11 (g : (List ((List UInt8) × (List UInt8) × (List (Int × (List Int))))) × Int × Unit × Int × Int) =>
 match g with
 | (data12, a12, cmp12, i11, j11) =>
 (bif (decide (i11 ≤ j11)) then
 (if 0 ≤ j11 ∧ j11 < (data12.length : Int) then
 (Option.bind (data12[j11.toNat]?) fun e101 =>
 (if 0 ≤ a12 ∧ a12 < (data12.length : Int) then
 (Option.bind (data12[a12.toNat]?) fun e102 =>
 (Option.bind (i_SegOf_1_m N e101.1 e101.2.1 e101.2.2 e102.1 e102.2.1 e102.2.2) fun r9 =>
 (bif (!(decide (r9 < 0))) then
 (if fits (j11 - 1) then (go11 (data12, a12, (), i11, (j11 - 1))) else none)
 else
 (bif (decide (j11 < i11)) then
 (if 0 ≤ a12 ∧ a12 < (data12.length : Int) then
 (Option.bind (data12[a12.toNat]?) fun e103 =>
 (if 0 ≤ j11 ∧ j11 < (data12.length : Int) then
 (Option.bind (data12[j11.toNat]?) fun e104 =>
 (if 0 ≤ j11 ∧ j11 < (data12.length : Int) then
 (Option.bind (data12[j11.toNat]?) fun e105 =>
 (if 0 ≤ a12 ∧ a12 < ((data12.set j11.toNat e103).length : Int) then
 (Option.bind ((data12.set j11.toNat e103)[a12.toNat]?) fun e106 =>
 (some (j11, true, ((data12.set j11.toNat e103).set a12.toNat e104))))
 else none))
 else none))
 else none))
 else none)
 else
 (if 0 ≤ j11 ∧ j11 < (data12.length : Int) then
 (Option.bind (data12[j11.toNat]?) fun e107 =>
 (if 0 ≤ i11 ∧ i11 < (data12.length : Int) then
 (Option.bind (data12[i11.toNat]?) fun e108 =>
 (if 0 ≤ i11 ∧ i11 < (data12.length : Int) then
 (Option.bind (data12[i11.toNat]?) fun e109 =>
 (if 0 ≤ j11 ∧ j11 < ((data12.set i11.toNat e107).length : Int) then
 (Option.bind ((data12.set i11.toNat e107)[j11.toNat]?) fun e110 =>
 (if fits (i11 + 1) then (if fits (j11 - 1) then (iter (fun go12 (g : (List ((List UInt8) × (List UInt8) × (List (Int × (List Int))))) × Int × Unit × Int × Int) =>
 match g with
 | (data13, a13, cmp13, i12, j12) =>
 (iter (fun go13 (g : (List ((List UInt8) × (List UInt8) × (List (Int × (List Int))))) × Int × Unit × Int × Int) =>
 match g with
 | (data14, a14, cmp14, i13, j13) =>
 (bif (decide (i13 ≤ j13)) then
 (if 0 ≤ i13 ∧ i13 < (data14.length : Int) then
 (Option.bind (data14[i13.toNat]?) fun e111 =>
 (if 0 ≤ a14 ∧ a14 < (data14.length : Int) then
 (Option.bind (data14[a14.toNat]?) fun e112 =>
 (Option.bind (i_SegOf_1_m N e111.1 e111.2.1 e111.2.2 e112.1 e112.2.1 e112.2.2) fun r10 =>
 (bif (decide (r10 < 0)) then
 (if fits (i13 + 1) then (go13 (data14, a14, (), (i13 + 1), j13)) else none)
 else
 (iter (fun go14 (g : (List ((List UInt8) × (List UInt8) × (List (Int × (List Int))))) × Int × Unit × Int × Int) =>
 match g with
 | (data15, a15, cmp15, i14, j14) =>
 (bif (decide (i14 ≤ j14)) then
 (if 0 ≤ j14 ∧ j14 < (data15.length : Int) then
 (Option.bind (data15[j14.toNat]?) fun e113 =>
 (if 0 ≤ a15 ∧ a15 < (data15.length : Int) then
 (Option.bind (data15[a15.toNat]?) fun e114 =>
 (Option.bind (i_SegOf_1_m N e113.1 e113.2.1 e113.2.2 e114.1 e114.2.1 e114.2.2) fun r11 =>
 (bif (!(decide (r11 < 0))) then
 (if fits (j14 - 1) then (go14 (data15, a15, (), i14, (j14 - 1))) else none)
 else
 (bif (decide (j14 < i14)) then
 (if 0 ≤ a15 ∧ a15 < (data15.length : Int) then
 (Option.bind (data15[a15.toNat]?) fun e115 =>
 (if 0 ≤ j14 ∧ j14 < (data15.length : Int) then
 (Option.bind (data15[j14.toNat]?) fun e116 =>
 (if 0 ≤ j14 ∧ j14 < (data15.length : Int) then
 (Option.bind (data15[j14.toNat]?) fun e117 =>
 (if 0 ≤ a15 ∧ a15 < ((data15.set j14.toNat e115).length : Int) then
 (Option.bind ((data15.set j14.toNat e115)[a15.toNat]?) fun e118 =>
 (some (j14, false, ((data15.set j14.toNat e115).set a15.toNat e116))))
 else none))
 else none))
 else none))
 else none)
 else
 (if 0 ≤ j14 ∧ j14 < (data15.length : Int) then
 (Option.bind (data15[j14.toNat]?) fun e119 =>
 (if 0 ≤ i14 ∧ i14 < (data15.length : Int) then
 (Option.bind (data15[i14.toNat]?) fun e120 =>
 (if 0 ≤ i14 ∧ i14 < (data15.length : Int) then
 (Option.bind (data15[i14.toNat]?) fun e121 =>
 (if 0 ≤ j14 ∧ j14 < ((data15.set i14.toNat e119).length : Int) then
 (Option.bind ((data15.set i14.toNat e119)[j14.toNat]?) fun e122 =>
 (if fits (i14 + 1) then (if fits (j14 - 1) then (go12 (((data15.set i14.toNat e119).set j14.toNat e120), a15, (), (i14 + 1), (j14 - 1))) else none) else none))
 else none))
 else none))
 else none))
 else none)))))
 else none))
 else none)
 else
 (bif (decide (j14 < i14)) then
 (if 0 ≤ a15 ∧ a15 < (data15.length : Int) then
 (Option.bind (data15[a15.toNat]?) fun e123 =>
 (if 0 ≤ j14 ∧ j14 < (data15.length : Int) then
 (Option.bind (data15[j14.toNat]?) fun e124 =>
 (if 0 ≤ j14 ∧ j14 < (data15.length : Int) then
 (Option.bind (data15[j14.toNat]?) fun e125 =>
 (if 0 ≤ a15 ∧ a15 < ((data15.set j14.toNat e123).length : Int) then
 (Option.bind ((data15.set j14.toNat e123)[a15.toNat]?) fun e126 =>
 (some (j14, false, ((data15.set j14.toNat e123).set a15.toNat e124))))
 else none))
 else none))
 else none))
 else none)
 else
 (if 0 ≤ j14 ∧ j14 < (data15.length : Int) then
 (Option.bind (data15[j14.toNat]?) fun e127 =>
 (if 0 ≤ i14 ∧ i14 < (data15.length : Int) then
 (Option.bind (data15[i14.toNat]?) fun e128 =>
 (if 0 ≤ i14 ∧ i14 < (data15.length : Int) then
 (Option.bind (data15[i14.toNat]?) fun e129 =>
 (if 0 ≤ j14 ∧ j14 < ((data15.set i14.toNat e127).length : Int) then
 (Option.bind ((data15.set i14.toNat e127)[j14.toNat]?) fun e130 =>
 (if fits (i14 + 1) then (if fits (j14 - 1) then (go12 (((data15.set i14.toNat e127).set j14.toNat e128), a15, (), (i14 + 1), (j14 - 1))) else none) else none))
 else none))
 else none))
 else none))
 else none)))) N (data14, a14, (), i13, j13)))))
 else none))
 else none)
 else
 (iter (fun go15 (g : (List ((List UInt8) × (List UInt8) × (List (Int × (List Int))))) × Int × Unit × Int × Int) =>
 match g with
 | (data16, a16, cmp16, i15, j15) =>
 (bif (decide (i15 ≤ j15)) then
 (if 0 ≤ j15 ∧ j15 < (data16.length : Int) then
 (Option.bind (data16[j15.toNat]?) fun e131 =>
 (if 0 ≤ a16 ∧ a16 < (data16.length : Int) then
 (Option.bind (data16[a16.toNat]?) fun e132 =>
 (Option.bind (i_SegOf_1_m N e131.1 e131.2.1 e131.2.2 e132.1 e132.2.1 e132.2.2) fun r12 =>
 (bif (!(decide (r12 < 0))) then
 (if fits (j15 - 1) then (go15 (data16, a16, (), i15, (j15 - 1))) else none)
 else
 (bif (decide (j15 < i15)) then
 (if 0 ≤ a16 ∧ a16 < (data16.length : Int) then
 (Option.bind (data16[a16.toNat]?) fun e133 =>
 (if 0 ≤ j15 ∧ j15 < (data16.length : Int) then
 (Option.bind (data16[j15.toNat]?) fun e134 =>
 (if 0 ≤ j15 ∧ j15 < (data16.length : Int) then
 (Option.bind (data16[j15.toNat]?) fun e135 =>
 (if 0 ≤ a16 ∧ a16 < ((data16.set j15.toNat e133).length : Int) then
 (Option.bind ((data16.set j15.toNat e133)[a16.toNat]?) fun e136 =>
 (some (j15, false, ((data16.set j15.toNat e133).set a16.toNat e134))))
 else none))
 else none))
 else none))
 else none)
 else
 (if 0 ≤ j15 ∧ j15 < (data16.length : Int) then
 (Option.bind (data16[j15.toNat]?) fun e137 =>
 (if 0 ≤ i15 ∧ i15 < (data16.length : Int) then
 (Option.bind (data16[i15.toNat]?) fun e138 =>
 (if 0 ≤ i15 ∧ i15 < (data16.length : Int) then
 (Option.bind (data16[i15.toNat]?) fun e139 =>
 (if 0 ≤ j15 ∧ j15 < ((data16.set i15.toNat e137).length : Int) then
 (Option.bind ((data16.set i15.toNat e137)[j15.toNat]?) fun e140 =>
 (if fits (i15 + 1) then (if fits (j15 - 1) then (go12 (((data16.set i15.toNat e137).set j15.toNat e138), a16, (), (i15 + 1), (j15 - 1))) else none) else none))
 else none))
 else none))
 else none))
 else none)))))
 else none))
 else none)
 else
 (bif (decide (j15 < i15)) then
 (if 0 ≤ a16 ∧ a16 < (data16.length : Int) then
 (Option.bind (data16[a16.toNat]?) fun e141 =>
 (if 0 ≤ j15 ∧ j15 < (data16.length : Int) then
 (Option.bind (data16[j15.toNat]?) fun e142 =>
 (if 0 ≤ j15 ∧ j15 < (data16.length : Int) then
 (Option.bind (data16[j15.toNat]?) fun e143 =>
 (if 0 ≤ a16 ∧ a16 < ((data16.set j15.toNat e141).length : Int) then
 (Option.bind ((data16.set j15.toNat e141)[a16.toNat]?) fun e144 =>
 (some (j15, false, ((data16.set j15.toNat e141).set a16.toNat e142))))
 else none))
 else none))
 else none))
 else none)
 else
 (if 0 ≤ j15 ∧ j15 < (data16.length : Int) then
 (Option.bind (data16[j15.toNat]?) fun e145 =>
 (if 0 ≤ i15 ∧ i15 < (data16.length : Int) then
 (Option.bind (data16[i15.toNat]?) fun e146 =>
 (if 0 ≤ i15 ∧ i15 < (data16.length : Int) then
 (Option.bind (data16[i15.toNat]?) fun e147 =>
 (if 0 ≤ j15 ∧ j15 < ((data16.set i15.toNat e145).length : Int) then
 (Option.bind ((data16.set i15.toNat e145)[j15.toNat]?) fun e148 =>
 (if fits (i15 + 1) then (if fits (j15 - 1) then (go12 (((data16.set i15.toNat e145).set j15.toNat e146), a16, (), (i15 + 1), (j15 - 1))) else none) else none))
 else none))
 else none))
 else none))
 else none)))) N (data14, a14, (), i13, j13)))) N (data13, a13, (), i12, j12))) N (((data12.set i11.toNat e107).set j11.toNat e108), a12, (), (i11 + 1), (j11 - 1))) else none) else none))
 else none))
 else none))
 else none))
 else none)))))
 else none))
 else none)
 else
 (bif (decide (j11 < i11)) then
 (if 0 ≤ a12 ∧ a12 < (data12.length : Int) then
 (Option.bind (data12[a12.toNat]?) fun e149 =>
 (if 0 ≤ j11 ∧ j11 < (data12.length : Int) then
 (Option.bind (data12[j11.toNat]?) fun e150 =>
 (if 0 ≤ j11 ∧ j11 < (data12.length : Int) then
 (Option.bind (data12[j11.toNat]?) fun e151 =>
 (if 0 ≤ a12 ∧ a12 < ((data12.set j11.toNat e149).length : Int) then
 (Option.bind ((data12.set j11.toNat e149)[a12.toNat]?) fun e152 =>
 (some (j11, true, ((data12.set j11.toNat e149).set a12.toNat e150))))
 else none))
 else none))
 else none))
 else none)
 else
 (if 0 ≤ j11 ∧ j11 < (data12.length : Int) then
 (Option.bind (data12[j11.toNat]?) fun e153 =>
 (if 0 ≤ i11 ∧ i11 < (data12.length : Int) then
 (Option.bind (data12[i11.toNat]?) fun e154 =>
 (if 0 ≤ i11 ∧ i11 < (data12.length : Int) then
 (Option.bind (data12[i11.toNat]?) fun e155 =>
 (if 0 ≤ j11 ∧ j11 < ((data12.set i11.toNat e153).length : Int) then
 (Option.bind ((data12.set i11.toNat e153)[j11.toNat]?) fun e156 =>
 (if fits (i11 + 1) then (if fits (j11 - 1) then (iter (fun go16 (g : (List ((List UInt8) × (List UInt8) × (List (Int × (List Int))))) × Int × Unit × Int × Int) =>
 match g with
 | (data17, a17, cmp17, i16, j16) =>
 (iter (fun go17 (g : (List ((List UInt8) × (List UInt8) × (List (Int × (List Int))))) × Int × Unit × Int × Int) =>
 match g with
 | (data18, a18, cmp18, i17, j17) =>
 (bif (decide (i17 ≤ j17)) then
 (if 0 ≤ i17 ∧ i17 < (data18.length : Int) then
 (Option.bind (data18[i17.toNat]?) fun e157 =>
 (if 0 ≤ a18 ∧ a18 < (data18.length : Int) then
 (Option.bind (data18[a18.toNat]?) fun e158 =>
 (Option.bind (i_SegOf_1_m N e157.1 e157.2.1 e157.2.2 e158.1 e158.2.1 e158.2.2) fun r13 =>
 (bif (decide (r13 < 0)) then
 (if fits (i17 + 1) then (go17 (data18, a18, (), (i17 + 1), j17)) else none)
 else
 (iter (fun go18 (g : (List ((List UInt8) × (List UInt8) × (List (Int × (List Int))))) × Int × Unit × Int × Int) =>
 match g with
 | (data19, a19, cmp19, i18, j18) =>
 (bif (decide (i18 ≤ j18)) then
 (if 0 ≤ j18 ∧ j18 < (data19.length : Int) then
 (Option.bind (data19[j18.toNat]?) fun e159 =>
 (if 0 ≤ a19 ∧ a19 < (data19.length : Int) then
 (Option.bind (data19[a19.toNat]?) fun e160 =>
 (Option.bind (i_SegOf_1_m N e159.1 e159.2.1 e159.2.2 e160.1 e160.2.1 e160.2.2) fun r14 =>
 (bif (!(decide (r14 < 0))) then
 (if fits (j18 - 1) then (go18 (data19, a19, (), i18, (j18 - 1))) else none)
 else
 (bif (decide (j18 < i18)) then
 (if 0 ≤ a19 ∧ a19 < (data19.length : Int) then
 (Option.bind (data19[a19.toNat]?) fun e161 =>
 (if 0 ≤ j18 ∧ j18 < (data19.length : Int) then
 (Option.bind (data19[j18.toNat]?) fun e162 =>
 (if 0 ≤ j18 ∧ j18 < (data19.length : Int) then
 (Option.bind (data19[j18.toNat]?) fun e163 =>
 (if 0 ≤ a19 ∧ a19 < ((data19.set j18.toNat e161).length : Int) then
 (Option.bind ((data19.set j18.toNat e161)[a19.toNat]?) fun e164 =>
 (some (j18, false, ((data19.set j18.toNat e161).set a19.toNat e162))))
 else none))
 else none))
 else none))
 else none)
 else
 (if 0 ≤ j18 ∧ j18 < (data19.length : Int) then
 (Option.bind (data19[j18.toNat]?) fun e165 =>
 (if 0 ≤ i18 ∧ i18 < (data19.length : Int) then
 (Option.bind (data19[i18.toNat]?) fun e166 =>
 (if 0 ≤ i18 ∧ i18 < (data19.length : Int) then
 (Option.bind (data19[i18.toNat]?) fun e167 =>
 (if 0 ≤ j18 ∧ j18 < ((data19.set i18.toNat e165).length : Int) then
 (Option.bind ((data19.set i18.toNat e165)[j18.toNat]?) fun e168 =>
 (if fits (i18 + 1) then (if fits (j18 - 1) then (go16 (((data19.set i18.toNat e165).set j18.toNat e166), a19, (), (i18 + 1), (j18 - 1))) else none) else none))
 else none))
 else none))
 else none))
 else none)))))
 else none))
 else none)
 else
 (bif (decide (j18 < i18)) then
 (if 0 ≤ a19 ∧ a19 < (data19.length : Int) then
 (Option.bind (data19[a19.toNat]?) fun e169 =>
 (if 0 ≤ j18 ∧ j18 < (data19.length : Int) then
 (Option.bind (data19[j18.toNat]?) fun e170 =>
 (if 0 ≤ j18 ∧ j18 < (data19.length : Int) then
 (Option.bind (data19[j18.toNat]?) fun e171 =>
 (if 0 ≤ a19 ∧ a19 < ((data19.set j18.toNat e169).length : Int) then
 (Option.bind ((data19.set j18.toNat e169)[a19.toNat]?) fun e172 =>
 (some (j18, false, ((data19.set j18.toNat e169).set a19.toNat e170))))
 else none))
 else none))
 else none))
 else none)
 else
 (if 0 ≤ j18 ∧ j18 < (data19.length : Int) then
 (Option.bind (data19[j18.toNat]?) fun e173 =>
 (if 0 ≤ i18 ∧ i18 < (data19.length : Int) then
 (Option.bind (data19[i18.toNat]?) fun e174 =>
 (if 0 ≤ i18 ∧ i18 < (data19.length : Int) then
 (Option.bind (data19[i18.toNat]?) fun e175 =>
 (if 0 ≤ j18 ∧ j18 < ((data19.set i18.toNat e173).length : Int) then
 (Option.bind ((data19.set i18.toNat e173)[j18.toNat]?) fun e176 =>
 (if fits (i18 + 1) then (if fits (j18 - 1) then (go16 (((data19.set i18.toNat e173).set j18.toNat e174), a19, (), (i18 + 1), (j18 - 1))) else none) else none))
 else none))
 else none))
 else none))
 else none)))) N (data18, a18, (), i17, j17)))))
 else none))
 else none)
 else
 (iter (fun go19 (g : (List ((List UInt8) × (List UInt8) × (List (Int × (List Int))))) × Int × Unit × Int × Int) =>
 match g with
 | (data20, a20, cmp20, i19, j19) =>
 (bif (decide (i19 ≤ j19)) then
 (if 0 ≤ j19 ∧ j19 < (data20.length : Int) then
 (Option.bind (data20[j19.toNat]?) fun e177 =>
 (if 0 ≤ a20 ∧ a20 < (data20.length : Int) then
 (Option.bind (data20[a20.toNat]?) fun e178 =>
 (Option.bind (i_SegOf_1_m N e177.1 e177.2.1 e177.2.2 e178.1 e178.2.1 e178.2.2) fun r15 =>
 (bif (!(decide (r15 < 0))) then
 (if fits (j19 - 1) then (go19 (data20, a20, (), i19, (j19 - 1))) else none)
 else
 (bif (decide (j19 < i19)) then
 (if 0 ≤ a20 ∧ a20 < (data20.length : Int) then
 (Option.bind (data20[a20.toNat]?) fun e179 =>
 (if 0 ≤ j19 ∧ j19 < (data20.length : Int) then
 (Option.bind (data20[j19.toNat]?) fun e180 =>
 (if 0 ≤ j19 ∧ j19 < (data20.length : Int) then
 (Option.bind (data20[j19.toNat]?) fun e181 =>
 (if 0 ≤ a20 ∧ a20 < ((data20.set j19.toNat e179).length : Int) then
 (Option.bind ((data20.set j19.toNat e179)[a20.toNat]?) fun e182 =>
 (some (j19, false, ((data20.set j19.toNat e179).set a20.toNat e180))))
 else none))
 else none))
 else none))
 else none)
 else
 (if 0 ≤ j19 ∧ j19 < (data20.length : Int) then
 (Option.bind (data20[j19.toNat]?) fun e183 =>
 (if 0 ≤ i19 ∧ i19 < (data20.length : Int) then
 (Option.bind (data20[i19.toNat]?) fun e184 =>
 (if 0 ≤ i19 ∧ i19 < (data20.length : Int) then
 (Option.bind (data20[i19.toNat]?) fun e185 =>
 (if 0 ≤ j19 ∧ j19 < ((data20.set i19.toNat e183).length : Int) then
 (Option.bind ((data20.set i19.toNat e183)[j19.toNat]?) fun e186 =>
 (if fits (i19 + 1) then (if fits (j19 - 1) then (go16 (((data20.set i19.toNat e183).set j19.toNat e184), a20, (), (i19 + 1), (j19 - 1))) else none) else none))
 else none))
 else none))
 else none))
 else none)))))
 else none))
 else none)
 else
 (bif (decide (j19 < i19)) then
 (if 0 ≤ a20 ∧ a20 < (data20.length : Int) then
 (Option.bind (data20[a20.toNat]?) fun e187 =>
 (if 0 ≤ j19 ∧ j19 < (data20.length : Int) then
 (Option.bind (data20[j19.toNat]?) fun e188 =>
 (if 0 ≤ j19 ∧ j19 < (data20.length : Int) then
 (Option.bind (data20[j19.toNat]?) fun e189 =>
 (if 0 ≤ a20 ∧ a20 < ((data20.set j19.toNat e187).length : Int) then
 (Option.bind ((data20.set j19.toNat e187)[a20.toNat]?) fun e190 =>
 (some (j19, false, ((data20.set j19.toNat e187).set a20.toNat e188))))
 else none))
 else none))
 else none))
 else none)
 else
 (if 0 ≤ j19 ∧ j19 < (data20.length : Int) then
 (Option.bind (data20[j19.toNat]?) fun e191 =>
 (if 0 ≤ i19 ∧ i19 < (data20.length : Int) then
 (Option.bind (data20[i19.toNat]?) fun e192 =>
 (if 0 ≤ i19 ∧ i19 < (data20.length : Int) then
 (Option.bind (data20[i19.toNat]?) fun e193 =>
 (if 0 ≤ j19 ∧ j19 < ((data20.set i19.toNat e191).length : Int) then
 (Option.bind ((data20.set i19.toNat e191)[j19.toNat]?) fun e194 =>
 (if fits (i19 + 1) then (if fits (j19 - 1) then (go16 (((data20.set i19.toNat e191).set j19.toNat e192), a20, (), (i19 + 1), (j19 - 1))) else none) else none))
 else none))
 else none))
 else none))
 else none)))) N (data18, a18, (), i17, j17)))) N (data17, a17, (), i16, j16))) N (((data12.set i11.toNat e153).set j11.toNat e154), a12, (), (i11 + 1), (j11 - 1))) else none) else none))
 else none))
 else none))
 else none))
 else none)))) N (data2, a2, (), i, j)))) N (((data.set a.toNat e).set pivot.toNat e2), a, (), (a + 1), (b - 1))) else none) else none))
 else none))
 else none))
 else none))
 else none)
def k_slices_partitionCmpFunc_912_M (N : Nat) : Model := ⟨k_slices_partitionCmpFunc_912_arg, k_slices_partitionCmpFunc_912_ret, fun a => k_slices_partitionCmpFunc_912_m N a.1 a.2.1 a.2.2.1 a.2.2.2.1 a.2.2.2.2⟩
set_option maxRecDepth 1000000 in
theorem k_slices_partitionCmpFunc_912_ok (N : Nat) : ModelOk Tryz.prog 127 (k_slices_partitionCmpFunc_912_M N) :=
  modelOk_of (E := mkEnv [(68, i_SegOf_1_M N)] [] [800000]) (mkEnv_ok (fnsOk_cons (i_SegOf_1_ok N) fnsOk_nil) _ _) Tryz.func127 (by kernel_rfl) rfl N k_slices_partitionCmpFunc_912_h (k_slices_partitionCmpFunc_912_M N) (by kernel_rfl) (by kernel_rfl) (fun a => by kernel_rfl)
/-! slices.pdqsortCmpFunc[loop.example/fossick/impl.Entry] -/
def k_slices_pdqsortCmpFunc_733_arg : Sh := ⟨[.mtk 800000 (.pair .str (.pair .str (.sl (.pair (.int .i64) (.sl (.int .i64)))))) 66 false, .pv (.int .i64), .pv (.int .i64), .pv (.int .i64), .clo 68 []], []⟩
def k_slices_pdqsortCmpFunc_733_ret : Sh := ⟨[.tup [], .mtk 800000 (.pair .str (.pair .str (.sl (.pair (.int .i64) (.sl (.int .i64)))))) 66 false], []⟩
def k_slices_pdqsortCmpFunc_733_s1 : Sh := ⟨.mtk 800000 Y3 66 false :: .pv (.int .i64) :: .pv (.int .i64) :: .pv (.int .i64) :: .clo 68 [] :: dz 5 (.pv .bool :: .pv .bool :: dz 136 []), []⟩
def k_slices_pdqsortCmpFunc_733_s2 : Sh := ⟨.mtk 800000 Y3 66 false :: .pv (.int .i64) :: .pv (.int .i64) :: .pv (.int .i64) :: .clo 68 [] :: dz 5 (.pv .bool :: .pv .bool :: .pv (.int .i64) :: .pv (.int .i64) :: dz 134 []), []⟩
def k_slices_pdqsortCmpFunc_733_s3 : Sh := ⟨.mtk 800000 Y3 66 false :: .pv (.int .i64) :: .pv (.int .i64) :: .pv (.int .i64) :: .clo 68 [] :: dz 5 (.pv .bool :: .pv .bool :: .pv (.int .i64) :: .pv (.int .i64) :: .pv (.int .i64) :: dz 133 []), []⟩
def k_slices_pdqsortCmpFunc_733_s4 : Sh := ⟨.mtk 800000 Y3 66 false :: .pv (.int .i64) :: .pv (.int .i64) :: .pv (.int .i64) :: .clo 68 [] :: dz 5 (.pv .bool :: .pv .bool :: .pv (.int .i64) :: dz 135 []), []⟩
def k_slices_pdqsortCmpFunc_733_h : Hint := (.seq .no (.seq .no (.block (.loop k_slices_pdqsortCmpFunc_733_s1 (.block (.seq .no (.seq .no (.seq .no (.meet k_slices_pdqsortCmpFunc_733_s4 .no (.seq .no (.meet k_slices_pdqsortCmpFunc_733_s3 .no (.meet k_slices_pdqsortCmpFunc_733_s2 .no .no))))))))))))
def k_slices_pdqsortCmpFunc_733_m (N : Nat) : (D : Nat) → (List ((List UInt8) × (List UInt8) × (List (Int × (List Int))))) → Int → Int → Int → Unit → Option ((List ((List UInt8) × (List UInt8) × (List (Int × (List Int))))))
 | 0, _, _, _, _, _ => none
 | D + 1, data, a, b, limit, cmp =>
 (iter (fun go (g : (List ((List UInt8) × (List UInt8) × (List (Int × (List Int))))) × Int × Int × Int × Unit × Bool × Bool) =>
 match g with
 | (data2, a2, b2, limit2, cmp2, wasBalanced, wasPartitioned) =>
 (if fits (b2 - a2) then (bif (decide ((b2 - a2) ≤ 12)) then
 (Option.bind (k_slices_insertionSortCmpFunc_564_m N data2 a2 b2 ()) fun r =>
 (some r))
 else
 (bif (decide (limit2 = 0)) then
 (Option.bind (k_slices_heapSortCmpFunc_198_m N data2 a2 b2 ()) fun r2 =>
 (some r2))
 else
 (meet (fun (g : (List ((List UInt8) × (List UInt8) × (List (Int × (List Int))))) × Int × Int × Int × Unit × Bool × Bool × Int) =>
 match g with
 | (data3, a3, b3, limit3, cmp3, wasBalanced2, wasPartitioned2, length) =>
 (Option.bind (k_slices_choosePivotCmpFunc_68_m N data3 a3 b3 ()) fun r4 =>
 (meet (fun (g : (List ((List UInt8) × (List UInt8) × (List (Int × (List Int))))) × Int × Int × Int × Unit × Bool × Bool × Int × Int × Int) =>
 match g with
 | (data4, a4, b4, limit4, cmp4, wasBalanced3, wasPartitioned3, length2, pivot, hint) =>
 (meet (fun (g : (List ((List UInt8) × (List UInt8) × (List (Int × (List Int))))) × Int × Int × Int × Unit × Bool × Bool × Int × Int) =>
 match g with
 | (data5, a5, b5, limit5, cmp5, wasBalanced4, wasPartitioned4, length3, pivot2) =>
 (bif (decide ((0 : Int) < a5)) then
 (if fits (a5 - 1) then (if 0 ≤ (a5 - 1) ∧ (a5 - 1) < (data5.length : Int) then
 (Option.bind (data5[(a5 - 1).toNat]?) fun e =>
 (if 0 ≤ pivot2 ∧ pivot2 < (data5.length : Int) then
 (Option.bind (data5[pivot2.toNat]?) fun e2 =>
 (Option.bind (i_SegOf_1_m N e.1 e.2.1 e.2.2 e2.1 e2.2.1 e2.2.2) fun r7 =>
 (bif (!(decide (r7 < 0))) then
 (Option.bind (k_slices_partitionEqualCmpFunc_419_m N data5 a5 b5 pivot2 ()) fun r8 =>
 (go (r8.2, r8.1, b5, limit5, (), wasBalanced4, wasPartitioned4)))
 else
 (Option.bind (k_slices_partitionCmpFunc_912_m N data5 a5 b5 pivot2 ()) fun r9 =>
 (if fits (r9.1 - a5) then (if fits (b5 - r9.1) then (if 8 ≠ 0 then
 (if fits (length3.tdiv 8) then (bif (decide ((r9.1 - a5) < (b5 - r9.1))) then
 (Option.bind (k_slices_pdqsortCmpFunc_733_m N D r9.2.2 a5 r9.1 limit5 ()) fun r10 =>
 (if fits (r9.1 + 1) then (go (r10, (r9.1 + 1), b5, limit5, (), (decide ((length3.tdiv 8) ≤ (r9.1 - a5))), r9.2.1)) else none))
 else
 (if fits (r9.1 + 1) then (Option.bind (k_slices_pdqsortCmpFunc_733_m N D r9.2.2 (r9.1 + 1) b5 limit5 ()) fun r11 =>
 (go (r11, a5, r9.1, limit5, (), (decide ((length3.tdiv 8) ≤ (b5 - r9.1))), r9.2.1))) else none)) else none)
 else none) else none) else none)))))
 else none))
 else none) else none)
 else
 (Option.bind (k_slices_partitionCmpFunc_912_m N data5 a5 b5 pivot2 ()) fun r12 =>
 (if fits (r12.1 - a5) then (if fits (b5 - r12.1) then (if 8 ≠ 0 then
 (if fits (length3.tdiv 8) then (bif (decide ((r12.1 - a5) < (b5 - r12.1))) then
 (Option.bind (k_slices_pdqsortCmpFunc_733_m N D r12.2.2 a5 r12.1 limit5 ()) fun r13 =>
 (if fits (r12.1 + 1) then (go (r13, (r12.1 + 1), b5, limit5, (), (decide ((length3.tdiv 8) ≤ (r12.1 - a5))), r12.2.1)) else none))
 else
 (if fits (r12.1 + 1) then (Option.bind (k_slices_pdqsortCmpFunc_733_m N D r12.2.2 (r12.1 + 1) b5 limit5 ()) fun r14 =>
 (go (r14, a5, r12.1, limit5, (), (decide ((length3.tdiv 8) ≤ (b5 - r12.1))), r12.2.1))) else none)) else none)
 else none) else none) else none)))) fun J3 =>
 (bif wasBalanced3 then
 (bif wasPartitioned3 then
 (bif (decide (hint = 1)) then
 (Option.bind (k_slices_partialInsertionSortCmpFunc_222_m N data4 a4 b4 ()) fun r6 =>
 (bif r6.1 then
 (some r6.2)
 else
 (J3 (r6.2, a4, b4, limit4, (), wasBalanced3, wasPartitioned3, length2, pivot))))
 else
 (J3 (data4, a4, b4, limit4, (), wasBalanced3, wasPartitioned3, length2, pivot)))
 else
 (J3 (data4, a4, b4, limit4, (), wasBalanced3, wasPartitioned3, length2, pivot)))
 else
 (J3 (data4, a4, b4, limit4, (), wasBalanced3, wasPartitioned3, length2, pivot))))) fun J2 =>
 (bif (decide (r4.2.1 = 2)) then
 (Option.bind (k_slices_reverseRangeCmpFunc_751_m N r4.2.2 a3 b3 ()) fun r5 =>
 (if fits (b3 - 1) then (if fits (r4.1 - a3) then (if fits ((b3 - 1) - (r4.1 - a3)) then (J2 (r5, a3, b3, limit3, (), wasBalanced2, wasPartitioned2, length, ((b3 - 1) - (r4.1 - a3)), 1)) else none) else none) else none))
 else
 (J2 (r4.2.2, a3, b3, limit3, (), wasBalanced2, wasPartitioned2, length, r4.1, r4.2.1)))))) fun J =>
 (bif (!wasBalanced) then
 (Option.bind (k_slices_breakPatternsCmpFunc_906_m N data2 a2 b2 ()) fun r3 =>
 (if fits (limit2 - 1) then (J (r3, a2, b2, (limit2 - 1), (), wasBalanced, wasPartitioned, (b2 - a2))) else none))
 else
 (J (data2, a2, b2, limit2, (), wasBalanced, wasPartitioned, (b2 - a2))))))) else none)) N (data, a, b, limit, (), true, true))
def k_slices_pdqsortCmpFunc_733_M (N D : Nat) : Model := ⟨k_slices_pdqsortCmpFunc_733_arg, k_slices_pdqsortCmpFunc_733_ret, fun a => k_slices_pdqsortCmpFunc_733_m N D a.1 a.2.1 a.2.2.1 a.2.2.2.1 a.2.2.2.2⟩
set_option maxRecDepth 1000000 in
theorem k_slices_pdqsortCmpFunc_733_step (N D : Nat) (ih : ModelOk Tryz.prog 100 (k_slices_pdqsortCmpFunc_733_M N D)) : ModelOk Tryz.prog 100 (k_slices_pdqsortCmpFunc_733_M N (D + 1)) :=
  modelOk_of (E := mkEnv [(100, k_slices_pdqsortCmpFunc_733_M N D), (120, k_slices_insertionSortCmpFunc_564_M N), (121, k_slices_heapSortCmpFunc_198_M N), (122, k_slices_breakPatternsCmpFunc_906_M N), (123, k_slices_choosePivotCmpFunc_68_M N), (124, k_slices_reverseRangeCmpFunc_751_M N), (125, k_slices_partialInsertionSortCmpFunc_222_M N), (68, i_SegOf_1_M N), (126, k_slices_partitionEqualCmpFunc_419_M N), (127, k_slices_partitionCmpFunc_912_M N)] [] [800000]) (mkEnv_ok (fnsOk_cons ih (fnsOk_cons (k_slices_insertionSortCmpFunc_564_ok N) (fnsOk_cons (k_slices_heapSortCmpFunc_198_ok N) (fnsOk_cons (k_slices_breakPatternsCmpFunc_906_ok N) (fnsOk_cons (k_slices_choosePivotCmpFunc_68_ok N) (fnsOk_cons (k_slices_reverseRangeCmpFunc_751_ok N) (fnsOk_cons (k_slices_partialInsertionSortCmpFunc_222_ok N) (fnsOk_cons (i_SegOf_1_ok N) (fnsOk_cons (k_slices_partitionEqualCmpFunc_419_ok N) (fnsOk_cons (k_slices_partitionCmpFunc_912_ok N) fnsOk_nil)))))))))) _ _) Tryz.func100 (by kernel_rfl) rfl N k_slices_pdqsortCmpFunc_733_h (k_slices_pdqsortCmpFunc_733_M N (D + 1)) (by kernel_rfl) (by kernel_rfl) (fun a => by kernel_rfl)
theorem k_slices_pdqsortCmpFunc_733_ok (N : Nat) : ∀ D, ModelOk Tryz.prog 100 (k_slices_pdqsortCmpFunc_733_M N D)
  | 0 => modelOk_none ⟨_, Tryz.func100, by decide, by kernel_rfl⟩ _ (fun a => rfl)
  | D + 1 => k_slices_pdqsortCmpFunc_733_step N D (k_slices_pdqsortCmpFunc_733_ok N D)
/-! slices.SortFunc[[]loop.example/fossick/impl.Entry,loop.example/fossick/impl.Entry] -/
def k_slices_SortFunc_105_arg : Sh := ⟨[.mtk 800000 (.pair .str (.pair .str (.sl (.pair (.int .i64) (.sl (.int .i64)))))) 66 false, .clo 68 []], []⟩
def k_slices_SortFunc_105_ret : Sh := ⟨[.tup [], .mtk 800000 (.pair .str (.pair .str (.sl (.pair (.int .i64) (.sl (.int .i64)))))) 66 false], []⟩
def k_slices_SortFunc_105_h : Hint := .no
def k_slices_SortFunc_105_m (N : Nat) (x : List ((List UInt8) × (List UInt8) × (List (Int × (List Int))))) (cmp : Unit) : Option ((List ((List UInt8) × (List UInt8) × (List (Int × (List Int)))))) :=
 (Option.bind (k_math_bits_Len_m N (IntKind.u64.wrap (x.length : Int))) fun r =>
 (Option.bind (k_slices_pdqsortCmpFunc_733_m N N x 0 (x.length : Int) r ()) fun r2 =>
 (some r2)))
def k_slices_SortFunc_105_M (N : Nat) : Model := ⟨k_slices_SortFunc_105_arg, k_slices_SortFunc_105_ret, fun a => k_slices_SortFunc_105_m N a.1 a.2⟩
set_option maxRecDepth 1000000 in
theorem k_slices_SortFunc_105_ok (N : Nat) : ModelOk Tryz.prog 67 (k_slices_SortFunc_105_M N) :=
  modelOk_of (E := mkEnv [(101, k_math_bits_Len_M N), (100, k_slices_pdqsortCmpFunc_733_M N N)] [] [800000]) (mkEnv_ok (fnsOk_cons (k_math_bits_Len_ok N) (fnsOk_cons (k_slices_pdqsortCmpFunc_733_ok N N) fnsOk_nil)) _ _) Tryz.func67 (by kernel_rfl) rfl N k_slices_SortFunc_105_h (k_slices_SortFunc_105_M N) (by kernel_rfl) (by kernel_rfl) (fun a => by kernel_rfl)
/-! loop.example/fossick/impl.SegOf -/
def i_SegOf_arg : Sh := ⟨[.agg [.pv (.sl .str), .pv (.sl (.pair (.sl .str) .str))], .pv (.sl (.pair (.int .i64) (.pair (.sl (.pair .str .str)) (.sl (.pair .str (.int .i64))))))], []⟩
def i_SegOf_ret : Sh := ⟨[.agg [.pv (.sl (.pair (.int .i64) (.pair (.sl (.pair .str .str)) (.sl (.pair .str (.int .i64)))))), .own 1 (.pair .str (.pair .str (.sl (.pair (.int .i64) (.sl (.int .i64)))))) 66 false]], []⟩
def i_SegOf_s1 : Sh := ⟨.dead :: .dead :: .box 2 0 :: .dead :: .box 4 0 :: .box 5 0 :: dz 19 (.pv Y0 :: .pv (.int .i64) :: .pv (.int .i64) :: dz 32 []), [(2, false, [.pv (.sl .str), .pv Y11]), (4, false, [.nils, .nils]), (5, false, [.pv Y0, .tre 700501 Y3 66])]⟩
def i_SegOf_s2 : Sh := ⟨.dead :: .dead :: .box 2 0 :: .dead :: .box 4 0 :: .box 5 0 :: .dead :: .box 7 0 :: dz 17 (.pv Y0 :: .pv (.int .i64) :: .pv (.int .i64) :: dz 4 (.pv Y13 :: .pv (.int .i64) :: .pv (.int .i64) :: dz 25 [])), [(2, false, [.pv (.sl .str), .pv Y11]), (4, false, [.nils, .nils]), (5, false, [.pv Y0, .tre 700501 Y3 66]), (7, false, [.pv (.int .i64), .pv Y13, .pv Y10])]⟩
def i_SegOf_s3 : Sh := ⟨.dead :: .dead :: .box 2 0 :: .dead :: .box 4 0 :: .box 5 0 :: .dead :: .box 7 0 :: .dead :: .box 9 0 :: dz 15 (.pv Y0 :: .pv (.int .i64) :: .pv (.int .i64) :: dz 4 (.pv Y13 :: .pv (.int .i64) :: .pv (.int .i64) :: dz 6 (.own 600041 Y12 110 true :: .pv (.int .i64) :: .pv (.int .i64) :: dz 16 []))), [(2, false, [.pv (.sl .str), .pv Y11]), (4, false, [.nils, .nils]), (5, false, [.pv Y0, .tre 700501 Y3 66]), (7, false, [.pv (.int .i64), .pv Y13, .pv Y10]), (9, false, [.pv .str, .pv .str])]⟩
def i_SegOf_h : Hint := (.seq .no (.seq .no (.seq .no (.seq (.seq .no (.block (.loop i_SegOf_s1 (.seq .no (.seq .no (.seq (.block (.seq .no (.seq .no (.block (.loop i_SegOf_s2 (.seq .no (.seq .no (.seq (.block (.seq .no (.seq .no (.block (.loop i_SegOf_s3 .no))))) .no)))))))) .no)))))) .no))))
def i_SegOf_m (N : Nat) (c : List (List UInt8)) (c2 : List ((List (List UInt8)) × (List UInt8))) (docs : List (Int × (List ((List UInt8) × (List UInt8))) × (List ((List UInt8) × Int)))) : Option ((List (Int × (List ((List UInt8) × (List UInt8))) × (List ((List UInt8) × Int)))) × (List ((List UInt8) × (List UInt8) × (List (Int × (List Int)))))) :=
 (Option.bind (i_ConfOk_m N c c2) fun r =>
 (bif (!r) then
 (some (([] : List (Int × (List ((List UInt8) × (List UInt8))) × (List ((List UInt8) × Int)))), ([] : List ((List UInt8) × (List UInt8) × (List (Int × (List Int)))))))
 else
 (Option.bind (i_DocsOk_m N docs) fun r2 =>
 (bif (!r2) then
 (some (([] : List (Int × (List ((List UInt8) × (List UInt8))) × (List ((List UInt8) × Int)))), ([] : List ((List UInt8) × (List UInt8) × (List (Int × (List Int)))))))
 else
 (Option.bind (i_cloneDocs_m N docs) fun r3 =>
 (iter (fun go (g : (List (Int × (List ((List UInt8) × (List UInt8))) × (List ((List UInt8) × Int)))) × Int × Int × (List (List UInt8)) × (List ((List (List UInt8)) × (List UInt8))) × (List (Int × (List ((List UInt8) × (List UInt8))) × (List ((List UInt8) × Int)))) × (List ((List UInt8) × (List UInt8) × (List (Int × (List Int)))))) =>
 match g with
 | (t25, t26, t27, c3, c4, s, s2) =>
 (bif (decide (t27 < t26)) then
 (Option.bind (idx t25 t27) fun e =>
 (iter (fun go2 (g : (List (Int × (List ((List UInt8) × (List UInt8))) × (List ((List UInt8) × Int)))) × Int × Int × (List ((List UInt8) × (List UInt8))) × Int × Int × (List (List UInt8)) × (List ((List (List UInt8)) × (List UInt8))) × (List (Int × (List ((List UInt8) × (List UInt8))) × (List ((List UInt8) × Int)))) × (List ((List UInt8) × (List UInt8) × (List (Int × (List Int))))) × Int × (List ((List UInt8) × (List UInt8))) × (List ((List UInt8) × Int))) =>
 match g with
 | (t252, t262, t272, t32, t33, t34, c5, c6, s3, s4, d, d2, d3) =>
 (bif (decide (t34 < t33)) then
 (Option.bind (idx t32 t34) fun e2 =>
 (Option.bind (i_TermsOf_m N c5 c6 e2.2) fun r4 =>
 (iter (fun go3 (g : (List (Int × (List ((List UInt8) × (List UInt8))) × (List ((List UInt8) × Int)))) × Int × Int × (List ((List UInt8) × (List UInt8))) × Int × Int × (List ((List UInt8) × Int)) × Int × Int × (List (List UInt8)) × (List ((List (List UInt8)) × (List UInt8))) × (List (Int × (List ((List UInt8) × (List UInt8))) × (List ((List UInt8) × Int)))) × (List ((List UInt8) × (List UInt8) × (List (Int × (List Int))))) × Int × (List ((List UInt8) × (List UInt8))) × (List ((List UInt8) × Int)) × (List UInt8) × (List UInt8)) =>
 match g with
 | (t253, t263, t273, t322, t332, t342, t41, t42, t43, c7, c8, s5, s6, d4, d5, d6, f, f2) =>
 (bif (decide (t43 < t42)) then
 (Option.bind (idx t41 t43) fun e3 =>
 (Option.bind (i_Seg_put_m N f e3.1 e3.2 d4 s5 s6) fun r5 =>
 (if fits (t43 + 1) then (go3 (t253, t263, t273, t322, t332, t342, t41, t42, (t43 + 1), c7, c8, r5.1, r5.2, d4, d5, d6, f, f2)) else none)))
 else
 (if fits (t342 + 1) then (go2 (t253, t263, t273, t322, t332, (t342 + 1), c7, c8, s5, s6, d4, d5, d6)) else none))) N (t252, t262, t272, t32, t33, t34, r4, (r4.length : Int), 0, c5, c6, s3, s4, d, d2, d3, e2.1, e2.2))))
 else
 (if fits (t272 + 1) then (go (t252, t262, (t272 + 1), c5, c6, s3, s4)) else none))) N (t25, t26, t27, e.2.1, (e.2.1.length : Int), 0, c3, c4, s, s2, e.1, e.2.1, e.2.2)))
 else
 (Option.bind (k_slices_SortFunc_105_m N s2 ()) fun r6 =>
 (some (s, r6))))) N (docs, (docs.length : Int), 0, c, c2, r3, ([] : List ((List UInt8) × (List UInt8) × (List (Int × (List Int))))))))))))
def i_SegOf_M (N : Nat) : Model := ⟨i_SegOf_arg, i_SegOf_ret, fun a => i_SegOf_m N a.1 a.2.1 a.2.2⟩
set_option maxRecDepth 1000000 in
theorem i_SegOf_ok (N : Nat) : ModelOk Tryz.prog 34 (i_SegOf_M N) :=
  modelOk_of (E := mkEnv [(31, i_ConfOk_M N), (32, i_DocsOk_M N), (64, i_cloneDocs_M N), (65, i_TermsOf_M N), (66, i_Seg_put_M N), (67, k_slices_SortFunc_105_M N)] [23] [] [23, 57]) (mkEnv_ok (fnsOk_cons (i_ConfOk_ok N) (fnsOk_cons (i_DocsOk_ok N) (fnsOk_cons (i_cloneDocs_ok N) (fnsOk_cons (i_TermsOf_ok N) (fnsOk_cons (i_Seg_put_ok N) (fnsOk_cons (k_slices_SortFunc_105_ok N) fnsOk_nil)))))) _ _ _) Tryz.func34 (by kernel_rfl) rfl N i_SegOf_h (i_SegOf_M N) (by kernel_rfl) (by kernel_rfl) (fun a => by kernel_rfl)
/-! slices.Equal[[]int,int] -/
def k_slices_Equal_193_arg : Sh := ⟨[.pv (.sl (.int .i64)), .pv (.sl (.int .i64))], []⟩
def k_slices_Equal_193_ret : Sh := ⟨[.pv .bool], []⟩
def k_slices_Equal_193_s1 : Sh := ⟨.pv Y16 :: .pv Y16 :: dz 10 (.pv (.int .i64) :: .pv (.int .i64) :: dz 12 []), []⟩
def k_slices_Equal_193_h : Hint := (.seq .no (.seq .no (.seq (.seq .no (.block (.loop k_slices_Equal_193_s1 .no))) .no)))
def k_slices_Equal_193_m (N : Nat) (s1 : List Int) (s2 : List Int) : Option (Bool) :=
 (bif (!decide ((s1.length : Int) = (s2.length : Int))) then
 (some false)
 else
 (iter (fun go (g : (List Int) × (List Int) × Int × Int) =>
 match g with
 | (s12, s22, t12, t13) =>
 (bif (decide (t13 < t12)) then
 (Option.bind (idx s12 t13) fun e =>
 (Option.bind (idx s22 t13) fun e2 =>
 (bif (!decide (e = e2)) then
 (some false)
 else
 (if fits (t13 + 1) then (go (s12, s22, t12, (t13 + 1))) else none))))
 else
 (some true))) N (s1, s2, (s1.length : Int), 0)))
def k_slices_Equal_193_M (N : Nat) : Model := ⟨k_slices_Equal_193_arg, k_slices_Equal_193_ret, fun a => k_slices_Equal_193_m N a.1 a.2⟩
set_option maxRecDepth 1000000 in
theorem k_slices_Equal_193_ok (N : Nat) : ModelOk Tryz.prog 103 (k_slices_Equal_193_M N) :=
  modelOk_of (E := mkEnv [] [] []) (mkEnv_ok fnsOk_nil _ _) Tryz.func103 (by kernel_rfl) rfl N k_slices_Equal_193_h (k_slices_Equal_193_M N) (by kernel_rfl) (by kernel_rfl) (fun a => by kernel_rfl)
/-! loop.example/fossick/impl.samePost -/
def i_samePost_arg : Sh := ⟨[.agg [.pv (.int .i64), .pv (.sl (.int .i64))], .agg [.pv (.int .i64), .pv (.sl (.int .i64))]], []⟩
def i_samePost_ret : Sh := ⟨[.pv .bool], []⟩
def i_samePost_h : Hint := .no
def i_samePost_m (N : Nat) (a : Int) (a2 : List Int) (b : Int) (b2 : List Int) : Option (Bool) :=
 (bif (decide (a = b)) then
 (Option.bind (k_slices_Equal_193_m N a2 b2) fun r =>
 (some r))
 else
 (some false))
def i_samePost_M (N : Nat) : Model := ⟨i_samePost_arg, i_samePost_ret, fun a => i_samePost_m N a.1 a.2.1 a.2.2.1 a.2.2.2⟩
set_option maxRecDepth 1000000 in
theorem i_samePost_ok (N : Nat) : ModelOk Tryz.prog 72 (i_samePost_M N) :=
  modelOk_of (E := mkEnv [(103, k_slices_Equal_193_M N)] [] []) (mkEnv_ok (fnsOk_cons (k_slices_Equal_193_ok N) fnsOk_nil) _ _) Tryz.func72 (by kernel_rfl) rfl N i_samePost_h (i_samePost_M N) (by kernel_rfl) (by kernel_rfl) (fun a => by kernel_rfl)
/-! slices.EqualFunc[[]loop.example/fossick/impl.Post,[]loop.example/fossick/impl.Post,loop.example/fossick/impl.Post,loop.example/fossick/impl.Post] -/
def k_slices_EqualFunc_520_arg : Sh := ⟨[.pv (.sl (.pair (.int .i64) (.sl (.int .i64)))), .pv (.sl (.pair (.int .i64) (.sl (.int .i64)))), .clo 72 []], []⟩
def k_slices_EqualFunc_520_ret : Sh := ⟨[.pv .bool], []⟩
def k_slices_EqualFunc_520_s1 : Sh := ⟨.dead :: .pv Y8 :: .clo 72 [] :: dz 12 (.pv Y8 :: .pv (.int .i64) :: .pv (.int .i64) :: dz 14 []), []⟩
def k_slices_EqualFunc_520_h : Hint := (.seq .no (.seq .no (.seq (.seq .no (.block (.loop k_slices_EqualFunc_520_s1 .no))) .no)))
def k_slices_EqualFunc_520_m (N : Nat) (s1 : List (Int × (List Int))) (s2 : List (Int × (List Int))) (eq : Unit) : Option (Bool) :=
 (bif (!decide ((s1.length : Int) = (s2.length : Int))) then
 (some false)
 else
 (iter (fun go (g : (List (Int × (List Int))) × Unit × (List (Int × (List Int))) × Int × Int) =>
 match g with
 | (s22, eq2, t15, t16, t17) =>
 (bif (decide (t17 < t16)) then
 (Option.bind (idx t15 t17) fun e =>
 (Option.bind (idx s22 t17) fun e2 =>
 (Option.bind (i_samePost_m N e.1 e.2 e2.1 e2.2) fun r =>
 (bif (!r) then
 (some false)
 else
 (if fits (t17 + 1) then (go (s22, (), t15, t16, (t17 + 1))) else none)))))
 else
 (some true))) N (s2, (), s1, (s1.length : Int), 0)))
def k_slices_EqualFunc_520_M (N : Nat) : Model := ⟨k_slices_EqualFunc_520_arg, k_slices_EqualFunc_520_ret, fun a => k_slices_EqualFunc_520_m N a.1 a.2.1 a.2.2⟩
set_option maxRecDepth 1000000 in
theorem k_slices_EqualFunc_520_ok (N : Nat) : ModelOk Tryz.prog 71 (k_slices_EqualFunc_520_M N) :=
  modelOk_of (E := mkEnv [(72, i_samePost_M N)] [] []) (mkEnv_ok (fnsOk_cons (i_samePost_ok N) fnsOk_nil) _ _) Tryz.func71 (by kernel_rfl) rfl N k_slices_EqualFunc_520_h (k_slices_EqualFunc_520_M N) (by kernel_rfl) (by kernel_rfl) (fun a => by kernel_rfl)
/-! loop.example/fossick/impl.sameEntry -/
def i_sameEntry_arg : Sh := ⟨[.agg [.pv .str, .pv .str, .pv (.sl (.pair (.int .i64) (.sl (.int .i64))))], .agg [.pv .str, .pv .str, .pv (.sl (.pair (.int .i64) (.sl (.int .i64))))]], []⟩
def i_sameEntry_ret : Sh := ⟨[.pv .bool], []⟩
def i_sameEntry_h : Hint := .no
def i_sameEntry_m (N : Nat) (a : List UInt8) (a2 : List UInt8) (a3 : List (Int × (List Int))) (b : List UInt8) (b2 : List UInt8) (b3 : List (Int × (List Int))) : Option (Bool) :=
 (bif (decide (a = b)) then
 (bif (decide (a2 = b2)) then
 (Option.bind (k_slices_EqualFunc_520_m N a3 b3 ()) fun r =>
 (some r))
 else
 (some false))
 else
 (some false))
def i_sameEntry_M (N : Nat) : Model := ⟨i_sameEntry_arg, i_sameEntry_ret, fun a => i_sameEntry_m N a.1 a.2.1 a.2.2.1 a.2.2.2.1 a.2.2.2.2.1 a.2.2.2.2.2⟩
set_option maxRecDepth 1000000 in
theorem i_sameEntry_ok (N : Nat) : ModelOk Tryz.prog 35 (i_sameEntry_M N) :=
  modelOk_of (E := mkEnv [(71, k_slices_EqualFunc_520_M N)] [] []) (mkEnv_ok (fnsOk_cons (k_slices_EqualFunc_520_ok N) fnsOk_nil) _ _) Tryz.func35 (by kernel_rfl) rfl N i_sameEntry_h (i_sameEntry_M N) (by kernel_rfl) (by kernel_rfl) (fun a => by kernel_rfl)
/-! slices.EqualFunc[[]loop.example/fossick/impl.Entry,[]loop.example/fossick/impl.Entry,loop.example/fossick/impl.Entry,loop.example/fossick/impl.Entry] -/
def k_slices_EqualFunc_948_arg : Sh := ⟨[.pv (.sl (.pair .str (.pair .str (.sl (.pair (.int .i64) (.sl (.int .i64))))))), .pv (.sl (.pair .str (.pair .str (.sl (.pair (.int .i64) (.sl (.int .i64))))))), .clo 35 []], []⟩
def k_slices_EqualFunc_948_ret : Sh := ⟨[.pv .bool], []⟩
def k_slices_EqualFunc_948_s1 : Sh := ⟨.dead :: .pv Y2 :: .clo 35 [] :: dz 12 (.pv Y2 :: .pv (.int .i64) :: .pv (.int .i64) :: dz 14 []), []⟩
def k_slices_EqualFunc_948_h : Hint := (.seq .no (.seq .no (.seq (.seq .no (.block (.loop k_slices_EqualFunc_948_s1 .no))) .no)))
def k_slices_EqualFunc_948_m (N : Nat) (s1 : List ((List UInt8) × (List UInt8) × (List (Int × (List Int))))) (s2 : List ((List UInt8) × (List UInt8) × (List (Int × (List Int))))) (eq : Unit) : Option (Bool) :=
 (bif (!decide ((s1.length : Int) = (s2.length : Int))) then
 (some false)
 else
 (iter (fun go (g : (List ((List UInt8) × (List UInt8) × (List (Int × (List Int))))) × Unit × (List ((List UInt8) × (List UInt8) × (List (Int × (List Int))))) × Int × Int) =>
 match g with
 | (s22, eq2, t15, t16, t17) =>
 (bif (decide (t17 < t16)) then
 (Option.bind (idx t15 t17) fun e =>
 (Option.bind (idx s22 t17) fun e2 =>
 (Option.bind (i_sameEntry_m N e.1 e.2.1 e.2.2 e2.1 e2.2.1 e2.2.2) fun r =>
 (bif (!r) then
 (some false)
 else
 (if fits (t17 + 1) then (go (s22, (), t15, t16, (t17 + 1))) else none)))))
 else
 (some true))) N (s2, (), s1, (s1.length : Int), 0)))
def k_slices_EqualFunc_948_M (N : Nat) : Model := ⟨k_slices_EqualFunc_948_arg, k_slices_EqualFunc_948_ret, fun a => k_slices_EqualFunc_948_m N a.1 a.2.1 a.2.2⟩
set_option maxRecDepth 1000000 in
theorem k_slices_EqualFunc_948_ok (N : Nat) : ModelOk Tryz.prog 33 (k_slices_EqualFunc_948_M N) :=
  modelOk_of (E := mkEnv [(35, i_sameEntry_M N)] [] []) (mkEnv_ok (fnsOk_cons (i_sameEntry_ok N) fnsOk_nil) _ _) Tryz.func33 (by kernel_rfl) rfl N k_slices_EqualFunc_948_h (k_slices_EqualFunc_948_M N) (by kernel_rfl) (by kernel_rfl) (fun a => by kernel_rfl)
/-! loop.example/fossick/impl.SegOk -/
def i_SegOk_arg : Sh := ⟨[.agg [.pv (.sl .str), .pv (.sl (.pair (.sl .str) .str))], .agg [.pv (.sl (.pair (.int .i64) (.pair (.sl (.pair .str .str)) (.sl (.pair .str (.int .i64)))))), .pv (.sl (.pair .str (.pair .str (.sl (.pair (.int .i64) (.sl (.int .i64)))))))]], []⟩
def i_SegOk_ret : Sh := ⟨[.pv .bool], []⟩
def i_SegOk_h : Hint := .no
def i_SegOk_m (N : Nat) (c : List (List UInt8)) (c2 : List ((List (List UInt8)) × (List UInt8))) (s : List (Int × (List ((List UInt8) × (List UInt8))) × (List ((List UInt8) × Int)))) (s2 : List ((List UInt8) × (List UInt8) × (List (Int × (List Int))))) : Option (Bool) :=
 (Option.bind (i_ConfOk_m N c c2) fun r =>
 (bif (!r) then
 (some false)
 else
 (Option.bind (i_DocsOk_m N s) fun r2 =>
 (bif (!r2) then
 (some false)
 else
 (Option.bind (i_SegOf_m N c c2 s) fun r3 =>
 (Option.bind (k_slices_EqualFunc_948_m N r3.2 s2 ()) fun r4 =>
 (some r4)))))))
def i_SegOk_M (N : Nat) : Model := ⟨i_SegOk_arg, i_SegOk_ret, fun a => i_SegOk_m N a.1 a.2.1 a.2.2.1 a.2.2.2⟩
set_option maxRecDepth 1000000 in
theorem i_SegOk_ok (N : Nat) : ModelOk Tryz.prog 8 (i_SegOk_M N) :=
  modelOk_of (E := mkEnv [(31, i_ConfOk_M N), (32, i_DocsOk_M N), (34, i_SegOf_M N), (33, k_slices_EqualFunc_948_M N)] [] []) (mkEnv_ok (fnsOk_cons (i_ConfOk_ok N) (fnsOk_cons (i_DocsOk_ok N) (fnsOk_cons (i_SegOf_ok N) (fnsOk_cons (k_slices_EqualFunc_948_ok N) fnsOk_nil)))) _ _) Tryz.func8 (by kernel_rfl) rfl N i_SegOk_h (i_SegOk_M N) (by kernel_rfl) (by kernel_rfl) (fun a => by kernel_rfl)
/-! (*loop.example/fossick/impl.Seg).terms -/
def i_Seg_terms_arg : Sh := ⟨[.ptr (.pair (.sl (.pair (.int .i64) (.pair (.sl (.pair .str .str)) (.sl (.pair .str (.int .i64)))))) (.sl (.pair .str (.pair .str (.sl (.pair (.int .i64) (.sl (.int .i64)))))))), .pv .str], []⟩
def i_Seg_terms_ret : Sh := ⟨[.own 1 .str 9 true], []⟩
def i_Seg_terms_s1 : Sh := ⟨.dead :: .pv .str :: dz 3 (.own 600005 .str 9 true :: dz 6 (.pv Y2 :: .pv (.int .i64) :: .pv (.int .i64) :: dz 14 [])), []⟩
def i_Seg_terms_h : Hint := (.seq .no (.seq .no (.seq (.seq .no (.block (.loop i_Seg_terms_s1 .no))) .no)))
def i_Seg_terms_m (N : Nat) (s : (List (Int × (List ((List UInt8) × (List UInt8))) × (List ((List UInt8) × Int)))) × (List ((List UInt8) × (List UInt8) × (List (Int × (List Int)))))) (field : List UInt8) : Option ((List (List UInt8))) :=
 (iter (fun go (g : (List UInt8) × (List (List UInt8)) × (List ((List UInt8) × (List UInt8) × (List (Int × (List Int))))) × Int × Int) =>
 match g with
 | (field2, out, t12, t13, t14) =>
 (bif (decide (t14 < t13)) then
 (Option.bind (idx t12 t14) fun e =>
 (bif (decide (e.1 = field2)) then
 (if room out.length ([e.2.1] : List (List UInt8)).length 16 then
 (if fits (t14 + 1) then (go (field2, (out ++ ([e.2.1] : List (List UInt8))), t12, t13, (t14 + 1))) else none)
 else none)
 else
 (if fits (t14 + 1) then (go (field2, out, t12, t13, (t14 + 1))) else none)))
 else
 (some out))) N (field, ([] : List (List UInt8)), s.2, (s.2.length : Int), 0))
def i_Seg_terms_M (N : Nat) : Model := ⟨i_Seg_terms_arg, i_Seg_terms_ret, fun a => i_Seg_terms_m N a.1 a.2⟩
set_option maxRecDepth 1000000 in
theorem i_Seg_terms_ok (N : Nat) : ModelOk Tryz.prog 25 (i_Seg_terms_M N) :=
  modelOk_of (E := mkEnv [] [] []) (mkEnv_ok fnsOk_nil _ _) Tryz.func25 (by kernel_rfl) rfl N i_Seg_terms_h (i_Seg_terms_M N) (by kernel_rfl) (by kernel_rfl) (fun a => by kernel_rfl)
/-! loop.example/fossick/impl.NearFar -/
def i_NearFar_arg : Sh := ⟨[.pv .str, .pv .str], []⟩
def i_NearFar_ret : Sh := ⟨[.pv (.int .i64)], []⟩
def i_NearFar_s1 : Sh := ⟨.pv .str :: .pv .str :: dz 3 (.mtk 600005 (.int .i64) 3 true :: dz 18 (.pv (.int .i64) :: .pv (.int .i64) :: dz 62 [])), []⟩
def i_NearFar_s2 : Sh := ⟨.pv .str :: .pv .str :: dz 3 (.mtk 600005 (.int .i64) 3 true :: .dead :: .pv (.int .i64) :: dz 80 []), []⟩
def i_NearFar_s3 : Sh := ⟨.pv .str :: .pv .str :: dz 3 (.mtk 600005 (.int .i64) 3 true :: .dead :: .pv (.int .i64) :: .pv (.int .i64) :: .pv (.int .i64) :: dz 78 []), []⟩
def i_NearFar_s4 : Sh := ⟨.pv .str :: .pv .str :: dz 3 (.mtk 600005 (.int .i64) 3 true :: .dead :: .pv (.int .i64) :: .dead :: .pv (.int .i64) :: .pv (.int .i64) :: dz 77 []), []⟩
def i_NearFar_s5 : Sh := ⟨.pv .str :: .pv .str :: dz 3 (.mtk 22 (.int .i64) 3 true :: dz 82 []), []⟩
def i_NearFar_s6 : Sh := ⟨.pv .str :: .pv .str :: dz 86 [], []⟩
def i_NearFar_h : Hint := (.seq .no (.meet i_NearFar_s6 .no (.meet i_NearFar_s5 .no (.seq (.seq .no (.block (.loop i_NearFar_s1 .no))) (.seq (.seq .no (.block (.loop i_NearFar_s2 (.seq .no (.seq (.block (.seq .no (.seq .no (.seq .no (.block (.loop i_NearFar_s3 (.seq .no (.seq (.block (.seq .no (.meet i_NearFar_s4 .no .no))) .no)))))))) .no))))) .no)))))
def i_NearFar_m (N : Nat) (a : List UInt8) (b : List UInt8) : Option (Int) :=
 (meet (fun (g : (List UInt8) × (List UInt8)) =>
 match g with
 | (a2, b2) =>
 (meet (fun (g : (List UInt8) × (List UInt8) × (List Int)) =>
 match g with
 | (a3, b3, row) =>
 (iter (fun go (g : (List UInt8) × (List UInt8) × (List Int) × Int × Int) =>
 match g with
 | (a4, b4, row2, t24, t25) =>
 (bif (decide (t25 < t24)) then
 (if 0 ≤ t25 ∧ t25 < (row2.length : Int) then
 (Option.bind (row2[t25.toNat]?) fun e =>
 (if fits (t25 + 1) then (go (a4, b4, (row2.set t25.toNat t25), t24, (t25 + 1))) else none))
 else none)
 else
 (iter (fun go2 (g : (List UInt8) × (List UInt8) × (List Int) × Int) =>
 match g with
 | (a5, b5, row3, i) =>
 (bif (decide (i ≤ (a5.length : Int))) then
 (if 0 ≤ (0 : Int) ∧ (0 : Int) < (row3.length : Int) then
 (Option.bind (row3[(0 : Int).toNat]?) fun e2 =>
 (if 0 ≤ (0 : Int) ∧ (0 : Int) < (row3.length : Int) then
 (Option.bind (row3[(0 : Int).toNat]?) fun e3 =>
 (iter (fun go3 (g : (List UInt8) × (List UInt8) × (List Int) × Int × Int × Int) =>
 match g with
 | (a6, b6, row4, i2, corner, j) =>
 (bif (decide (j ≤ (b6.length : Int))) then
 (meet (fun (g : (List UInt8) × (List UInt8) × (List Int) × Int × Int × Int) =>
 match g with
 | (a7, b7, row5, i3, j2, cost) =>
 (if 0 ≤ j2 ∧ j2 < (row5.length : Int) then
 (Option.bind (row5[j2.toNat]?) fun e4 =>
 (if 0 ≤ j2 ∧ j2 < (row5.length : Int) then
 (Option.bind (row5[j2.toNat]?) fun e5 =>
 (if fits (e5 + 1) then (if fits (j2 - 1) then (if 0 ≤ (j2 - 1) ∧ (j2 - 1) < (row5.length : Int) then
 (Option.bind (row5[(j2 - 1).toNat]?) fun e6 =>
 (if fits (e6 + 1) then (if 0 ≤ j2 ∧ j2 < (row5.length : Int) then
 (Option.bind (row5[j2.toNat]?) fun e7 =>
 (if fits (j2 + 1) then (go3 (a7, b7, (row5.set j2.toNat (if (e6 + 1) < (if (e5 + 1) < cost then (e5 + 1) else cost) then (e6 + 1) else (if (e5 + 1) < cost then (e5 + 1) else cost))), i3, e4, (j2 + 1))) else none))
 else none) else none))
 else none) else none) else none))
 else none))
 else none)) fun J3 =>
 (if fits (i2 - 1) then (Option.bind (idx a6 (i2 - 1)) fun c =>
 (if fits (j - 1) then (Option.bind (idx b6 (j - 1)) fun c2 =>
 (bif (!decide ((c.toNat : Int) = (c2.toNat : Int))) then
 (if fits (corner + 1) then (J3 (a6, b6, row4, i2, j, (corner + 1))) else none)
 else
 (J3 (a6, b6, row4, i2, j, corner)))) else none)) else none))
 else
 (if fits (i2 + 1) then (go2 (a6, b6, row4, (i2 + 1))) else none))) N (a5, b5, (row3.set (0 : Int).toNat i), i, e2, 1)))
 else none))
 else none)
 else
 (if 0 ≤ (b5.length : Int) ∧ (b5.length : Int) < (row3.length : Int) then
 (Option.bind (row3[(b5.length : Int).toNat]?) fun e8 =>
 (some e8))
 else none))) N (a4, b4, row2, 1)))) N (a3, b3, row, (row.length : Int), 0))) fun J2 =>
 (if fits ((b2.length : Int) + 1) then (if ((b2.length : Int) + 1) = ((b2.length : Int) + 1) ∧ 0 ≤ ((b2.length : Int) + 1) ∧ ((b2.length : Int) + 1) * 8 ≤ 140737488355328 ∧ ((b2.length : Int) + 1) ≤ 140737488355328 then
 (J2 (a2, b2, (List.replicate ((b2.length : Int) + 1).toNat 0)))
 else none) else none))) fun J =>
 (Option.bind (i_WordOk_m N a) fun r =>
 (bif (!r) then
 (some (-1))
 else
 (Option.bind (i_WordOk_m N b) fun r2 =>
 (bif (!r2) then
 (some (-1))
 else
 (J (a, b)))))))
def i_NearFar_M (N : Nat) : Model := ⟨i_NearFar_arg, i_NearFar_ret, fun a => i_NearFar_m N a.1 a.2⟩
set_option maxRecDepth 1000000 in
theorem i_NearFar_ok (N : Nat) : ModelOk Tryz.prog 12 (i_NearFar_M N) :=
  modelOk_of (E := mkEnv [(9, i_WordOk_M N)] [22] []) (mkEnv_ok (fnsOk_cons (i_WordOk_ok N) fnsOk_nil) _ _) Tryz.func12 (by kernel_rfl) rfl N i_NearFar_h (i_NearFar_M N) (by kernel_rfl) (by kernel_rfl) (fun a => by kernel_rfl)
/-! (*loop.example/fossick/impl.Seg).posts -/
def i_Seg_posts_arg : Sh := ⟨[.ptr (.pair (.sl (.pair (.int .i64) (.pair (.sl (.pair .str .str)) (.sl (.pair .str (.int .i64)))))) (.sl (.pair .str (.pair .str (.sl (.pair (.int .i64) (.sl (.int .i64)))))))), .pv .str, .pv .str], []⟩
def i_Seg_posts_ret : Sh := ⟨[.pv (.sl (.pair (.int .i64) (.sl (.int .i64))))], []⟩
def i_Seg_posts_s1 : Sh := ⟨.dead :: .pv .str :: .pv .str :: dz 9 (.pv Y2 :: .pv (.int .i64) :: .pv (.int .i64) :: dz 16 []), []⟩
def i_Seg_posts_h : Hint := (.seq .no (.seq (.seq .no (.block (.loop i_Seg_posts_s1 .no))) .no))
def i_Seg_posts_m (N : Nat) (s : (List (Int × (List ((List UInt8) × (List UInt8))) × (List ((List UInt8) × Int)))) × (List ((List UInt8) × (List UInt8) × (List (Int × (List Int)))))) (field : List UInt8) (term : List UInt8) : Option ((List (Int × (List Int)))) :=
 (iter (fun go (g : (List UInt8) × (List UInt8) × (List ((List UInt8) × (List UInt8) × (List (Int × (List Int))))) × Int × Int) =>
 match g with
 | (field2, term2, t12, t13, t14) =>
 (bif (decide (t14 < t13)) then
 (Option.bind (idx t12 t14) fun e =>
 (bif (decide (e.1 = field2)) then
 (bif (decide (e.2.1 = term2)) then
 (some e.2.2)
 else
 (if fits (t14 + 1) then (go (field2, term2, t12, t13, (t14 + 1))) else none))
 else
 (if fits (t14 + 1) then (go (field2, term2, t12, t13, (t14 + 1))) else none)))
 else
 (some ([] : List (Int × (List Int)))))) N (field, term, s.2, (s.2.length : Int), 0))
def i_Seg_posts_M (N : Nat) : Model := ⟨i_Seg_posts_arg, i_Seg_posts_ret, fun a => i_Seg_posts_m N a.1 a.2.1 a.2.2⟩
set_option maxRecDepth 1000000 in
theorem i_Seg_posts_ok (N : Nat) : ModelOk Tryz.prog 26 (i_Seg_posts_M N) :=
  modelOk_of (E := mkEnv [] [] []) (mkEnv_ok fnsOk_nil _ _) Tryz.func26 (by kernel_rfl) rfl N i_Seg_posts_h (i_Seg_posts_M N) (by kernel_rfl) (by kernel_rfl) (fun a => by kernel_rfl)
/-! loop.example/fossick/impl.SpellOf -/
def i_SpellOf_arg : Sh := ⟨[.agg [.pv (.sl .str), .pv (.sl (.pair (.sl .str) .str))], .agg [.pv (.sl (.pair (.int .i64) (.pair (.sl (.pair .str .str)) (.sl (.pair .str (.int .i64)))))), .pv (.sl (.pair .str (.pair .str (.sl (.pair (.int .i64) (.sl (.int .i64)))))))], .pv .str, .pv .str], []⟩
def i_SpellOf_ret : Sh := ⟨[.pv .str], []⟩
def i_SpellOf_s1 : Sh := ⟨.dead :: .dead :: .pv .str :: .pv .str :: .dead :: .box 5 0 :: dz 3 (.pv .str :: .pv (.int .i64) :: .pv (.int .i64) :: dz 14 (.own 600026 .str 9 true :: .pv (.int .i64) :: .pv (.int .i64) :: dz 33 [])), [(5, true, [.pv Y0, .pv Y2])]⟩
def i_SpellOf_h : Hint := (.seq .no (.seq .no (.seq .no (.seq (.seq .no (.block (.loop i_SpellOf_s1 .no))) .no))))
def i_SpellOf_m (N : Nat) (c : List (List UInt8)) (c2 : List ((List (List UInt8)) × (List UInt8))) (s : List (Int × (List ((List UInt8) × (List UInt8))) × (List ((List UInt8) × Int)))) (s2 : List ((List UInt8) × (List UInt8) × (List (Int × (List Int))))) (field : List UInt8) (word : List UInt8) : Option ((List UInt8)) :=
 (Option.bind (i_SegOk_m N c c2 s s2) fun r =>
 (bif (!r) then
 (some ([] : List UInt8))
 else
 (Option.bind (i_WordOk_m N word) fun r2 =>
 (bif (!r2) then
 (some ([] : List UInt8))
 else
 (Option.bind (i_Seg_terms_m N (s, s2) field) fun r3 =>
 (iter (fun go (g : (List UInt8) × (List UInt8) × (List UInt8) × Int × Int × (List (List UInt8)) × Int × Int × (List (Int × (List ((List UInt8) × (List UInt8))) × (List ((List UInt8) × Int)))) × (List ((List UInt8) × (List UInt8) × (List (Int × (List Int)))))) =>
 match g with
 | (field2, word2, best, least, most, t26, t27, t28, s3, s4) =>
 (bif (decide (t28 < t27)) then
 (Option.bind (idx t26 t28) fun e =>
 (Option.bind (i_StemOf_m N word2) fun r4 =>
 (Option.bind (i_NearFar_m N e r4) fun r5 =>
 (Option.bind (i_Seg_posts_m N (s3, s4) field2 e) fun r6 =>
 (bif (decide (r5 < least)) then
 (if fits (t28 + 1) then (go (field2, word2, e, r5, (r6.length : Int), t26, t27, (t28 + 1), s3, s4)) else none)
 else
 (bif (decide (r5 = least)) then
 (bif (decide (r5 ≤ 2)) then
 (bif (decide (most < (r6.length : Int))) then
 (if fits (t28 + 1) then (go (field2, word2, e, r5, (r6.length : Int), t26, t27, (t28 + 1), s3, s4)) else none)
 else
 (if fits (t28 + 1) then (go (field2, word2, best, least, most, t26, t27, (t28 + 1), s3, s4)) else none))
 else
 (if fits (t28 + 1) then (go (field2, word2, best, least, most, t26, t27, (t28 + 1), s3, s4)) else none))
 else
 (if fits (t28 + 1) then (go (field2, word2, best, least, most, t26, t27, (t28 + 1), s3, s4)) else none)))))))
 else
 (some best))) N (field, word, ([] : List UInt8), 3, 0, r3, (r3.length : Int), 0, s, s2)))))))
def i_SpellOf_M (N : Nat) : Model := ⟨i_SpellOf_arg, i_SpellOf_ret, fun a => i_SpellOf_m N a.1 a.2.1 a.2.2.1 a.2.2.2.1 a.2.2.2.2.1 a.2.2.2.2.2⟩
set_option maxRecDepth 1000000 in
theorem i_SpellOf_ok (N : Nat) : ModelOk Tryz.prog 6 (i_SpellOf_M N) :=
  modelOk_of (E := mkEnv [(8, i_SegOk_M N), (9, i_WordOk_M N), (25, i_Seg_terms_M N), (10, i_StemOf_M N), (12, i_NearFar_M N), (26, i_Seg_posts_M N)] [] []) (mkEnv_ok (fnsOk_cons (i_SegOk_ok N) (fnsOk_cons (i_WordOk_ok N) (fnsOk_cons (i_Seg_terms_ok N) (fnsOk_cons (i_StemOf_ok N) (fnsOk_cons (i_NearFar_ok N) (fnsOk_cons (i_Seg_posts_ok N) fnsOk_nil)))))) _ _) Tryz.func6 (by kernel_rfl) rfl N i_SpellOf_h (i_SpellOf_M N) (by kernel_rfl) (by kernel_rfl) (fun a => by kernel_rfl)
/-! loop.example/fossick/spec.l1In -/
def s_l1In_arg : Sh := ⟨[.pv (.int .i64), .pv (.int .i64), .pv (.int .i64)], []⟩
def s_l1In_ret : Sh := ⟨[.pv .bool], []⟩
def s_l1In_h : Hint := .no
def s_l1In_m (N : Nat) (n : Int) (low : Int) (high : Int) : Option (Bool) :=
 (bif (decide (low ≤ n)) then
 (some (decide (n ≤ high)))
 else
 (some false))
def s_l1In_M (N : Nat) : Model := ⟨s_l1In_arg, s_l1In_ret, fun a => s_l1In_m N a.1 a.2.1 a.2.2⟩
set_option maxRecDepth 1000000 in
theorem s_l1In_ok (N : Nat) : ModelOk Tryz.prog 58 (s_l1In_M N) :=
  modelOk_of (E := mkEnv [] [] []) (mkEnv_ok fnsOk_nil _ _) Tryz.func58 (by kernel_rfl) rfl N s_l1In_h (s_l1In_M N) (by kernel_rfl) (by kernel_rfl) (fun a => by kernel_rfl)
/-! loop.example/fossick/spec.l1WordOk -/
def s_l1WordOk_arg : Sh := ⟨[.pv .str], []⟩
def s_l1WordOk_ret : Sh := ⟨[.pv .bool], []⟩
def s_l1WordOk_s1 : Sh := ⟨.pv .str :: .dead :: .dead :: .pv (.int .i64) :: dz 23 [], []⟩
def s_l1WordOk_h : Hint := (.seq .no (.seq (.seq .no (.block (.loop s_l1WordOk_s1 .no))) .no))
def s_l1WordOk_m (N : Nat) (s : List UInt8) : Option (Bool) :=
 (iter (fun go (g : (List UInt8) × Int) =>
 match g with
 | (s2, i) =>
 (bif (decide (i < (s2.length : Int))) then
 (Option.bind (idx s2 i) fun c =>
 (Option.bind (s_l1Fold_m N (c.toNat : Int)) fun r =>
 (Option.bind (idx s2 i) fun c2 =>
 (bif (!decide (r = (c2.toNat : Int))) then
 (some false)
 else
 (Option.bind (idx s2 i) fun c3 =>
 (bif (decide ((c3.toNat : Int) = 0)) then
 (some false)
 else
 (if fits (i + 1) then (go (s2, (i + 1))) else none)))))))
 else
 (Option.bind (s_l1In_m N (s2.length : Int) 1 12) fun r2 =>
 (some r2)))) N (s, 0))
def s_l1WordOk_M (N : Nat) : Model := ⟨s_l1WordOk_arg, s_l1WordOk_ret, fun a => s_l1WordOk_m N a⟩
set_option maxRecDepth 1000000 in
theorem s_l1WordOk_ok (N : Nat) : ModelOk Tryz.prog 28 (s_l1WordOk_M N) :=
  modelOk_of (E := mkEnv [(57, s_l1Fold_M N), (58, s_l1In_M N)] [] []) (mkEnv_ok (fnsOk_cons (s_l1Fold_ok N) (fnsOk_cons (s_l1In_ok N) fnsOk_nil)) _ _) Tryz.func28 (by kernel_rfl) rfl N s_l1WordOk_h (s_l1WordOk_M N) (by kernel_rfl) (by kernel_rfl) (fun a => by kernel_rfl)
/-! loop.example/fossick/spec.l2Ok -/
def s_l2Ok_arg : Sh := ⟨[.agg [.pv (.sl .str), .pv (.sl (.pair (.sl .str) .str))]], []⟩
def s_l2Ok_ret : Sh := ⟨[.pv .bool], []⟩
def s_l2Ok_s1 : Sh := ⟨.dead :: .box 1 0 :: .dead :: .pv (.int .i64) :: dz 114 [], [(1, false, [.pv (.sl .str), .pv Y11])]⟩
def s_l2Ok_s2 : Sh := ⟨.dead :: .box 1 0 :: .dead :: .dead :: .pv (.int .i64) :: dz 113 [], [(1, false, [.pv (.sl .str), .pv Y11])]⟩
def s_l2Ok_s3 : Sh := ⟨.dead :: .box 1 0 :: .dead :: .dead :: .pv (.int .i64) :: .box 5 0 :: .pv (.int .i64) :: dz 111 [], [(1, false, [.pv (.sl .str), .pv Y11]), (5, false, [.pv (.sl .str), .pv .str])]⟩
def s_l2Ok_h : Hint := (.seq .no (.seq (.seq .no (.block (.loop s_l2Ok_s1 .no))) (.seq (.seq .no (.block (.loop s_l2Ok_s2 (.seq .no (.seq (.block (.seq .no (.seq (.seq .no (.block (.loop s_l2Ok_s3 .no))) .no))) .no))))) .no)))
def s_l2Ok_m (N : Nat) (c : List (List UInt8)) (c2 : List ((List (List UInt8)) × (List UInt8))) : Option (Bool) :=
 (iter (fun go (g : Int × (List (List UInt8)) × (List ((List (List UInt8)) × (List UInt8)))) =>
 match g with
 | (i, c3, c4) =>
 (bif (decide (i < (c3.length : Int))) then
 (Option.bind (idx c3 i) fun e =>
 (Option.bind (s_l1WordOk_m N e) fun r =>
 (bif (!r) then
 (some false)
 else
 (bif (decide ((0 : Int) < i)) then
 (Option.bind (idx c3 i) fun e2 =>
 (if fits (i - 1) then (Option.bind (idx c3 (i - 1)) fun e3 =>
 (bif (Op.bytesLess e2 e3 || decide (e2 = e3)) then
 (some false)
 else
 (if fits (i + 1) then (go ((i + 1), c3, c4)) else none))) else none))
 else
 (if fits (i + 1) then (go ((i + 1), c3, c4)) else none)))))
 else
 (iter (fun go2 (g : Int × (List (List UInt8)) × (List ((List (List UInt8)) × (List UInt8)))) =>
 match g with
 | (i2, c5, c6) =>
 (bif (decide (i2 < (c6.length : Int))) then
 (Option.bind (idx c6 i2) fun e4 =>
 (iter (fun go3 (g : Int × Int × (List (List UInt8)) × (List ((List (List UInt8)) × (List UInt8))) × (List (List UInt8)) × (List UInt8)) =>
 match g with
 | (i3, k, c7, c8, y, y2) =>
 (bif (decide (k < (y.length : Int))) then
 (Option.bind (idx y k) fun e5 =>
 (Option.bind (s_l1WordOk_m N e5) fun r2 =>
 (bif (!r2) then
 (some false)
 else
 (Option.bind (idx y k) fun e6 =>
 (Option.bind (s_l2Stem_m N e6) fun r3 =>
 (Option.bind (idx y k) fun e7 =>
 (bif (!decide (r3 = e7)) then
 (some false)
 else
 (Option.bind (idx y k) fun e8 =>
 (Option.bind (s_l2Has_m N c7 e8) fun r4 =>
 (bif r4 then
 (some false)
 else
 (if fits (k + 1) then (go3 (i3, (k + 1), c7, c8, y, y2)) else none)))))))))))
 else
 (Option.bind (s_l1In_m N (y.length : Int) 1 3) fun r5 =>
 (bif (!r5) then
 (some false)
 else
 (Option.bind (s_l1WordOk_m N y2) fun r6 =>
 (bif (!r6) then
 (some false)
 else
 (Option.bind (s_l2Stem_m N y2) fun r7 =>
 (bif (!decide (r7 = y2)) then
 (some false)
 else
 (if fits (i3 + 1) then (go2 ((i3 + 1), c7, c8)) else none))))))))) N (i2, 0, c5, c6, e4.1, e4.2)))
 else
 (bif (decide ((c5.length : Int) ≤ 6)) then
 (some (decide ((c6.length : Int) ≤ 4)))
 else
 (some false)))) N (0, c3, c4)))) N (0, c, c2))
def s_l2Ok_M (N : Nat) : Model := ⟨s_l2Ok_arg, s_l2Ok_ret, fun a => s_l2Ok_m N a.1 a.2⟩
set_option maxRecDepth 1000000 in
theorem s_l2Ok_ok (N : Nat) : ModelOk Tryz.prog 53 (s_l2Ok_M N) :=
  modelOk_of (E := mkEnv [(28, s_l1WordOk_M N), (29, s_l2Stem_M N), (85, s_l2Has_M N), (58, s_l1In_M N)] [] []) (mkEnv_ok (fnsOk_cons (s_l1WordOk_ok N) (fnsOk_cons (s_l2Stem_ok N) (fnsOk_cons (s_l2Has_ok N) (fnsOk_cons (s_l1In_ok N) fnsOk_nil)))) _ _) Tryz.func53 (by kernel_rfl) rfl N s_l2Ok_h (s_l2Ok_M N) (by kernel_rfl) (by kernel_rfl) (fun a => by kernel_rfl)
/-! loop.example/fossick/spec.l1Text -/
def s_l1Text_arg : Sh := ⟨[.pv .str], []⟩
def s_l1Text_ret : Sh := ⟨[.pv .bool], []⟩
def s_l1Text_s1 : Sh := ⟨.pv .str :: .dead :: .dead :: .pv (.int .i64) :: dz 19 [], []⟩
def s_l1Text_h : Hint := (.seq .no (.seq (.seq .no (.block (.loop s_l1Text_s1 .no))) .no))
def s_l1Text_m (N : Nat) (s : List UInt8) : Option (Bool) :=
 (iter (fun go (g : (List UInt8) × Int) =>
 match g with
 | (s2, i) =>
 (bif (decide (i < (s2.length : Int))) then
 (Option.bind (idx s2 i) fun c =>
 (bif (decide ((c.toNat : Int) < 32)) then
 (some false)
 else
 (Option.bind (idx s2 i) fun c2 =>
 (bif (decide ((126 : Int) < (c2.toNat : Int))) then
 (some false)
 else
 (if fits (i + 1) then (go (s2, (i + 1))) else none)))))
 else
 (some (decide ((s2.length : Int) ≤ 160))))) N (s, 0))
def s_l1Text_M (N : Nat) : Model := ⟨s_l1Text_arg, s_l1Text_ret, fun a => s_l1Text_m N a⟩
set_option maxRecDepth 1000000 in
theorem s_l1Text_ok (N : Nat) : ModelOk Tryz.prog 114 (s_l1Text_M N) :=
  modelOk_of (E := mkEnv [] [] []) (mkEnv_ok fnsOk_nil _ _) Tryz.func114 (by kernel_rfl) rfl N s_l1Text_h (s_l1Text_M N) (by kernel_rfl) (by kernel_rfl) (fun a => by kernel_rfl)
/-! loop.example/fossick/spec.l6Ok -/
def s_l6Ok_arg : Sh := ⟨[.agg [.pv (.int .i64), .pv (.sl (.pair .str .str)), .pv (.sl (.pair .str (.int .i64)))]], []⟩
def s_l6Ok_ret : Sh := ⟨[.pv .bool], []⟩
def s_l6Ok_s1 : Sh := ⟨.dead :: .box 1 0 :: .dead :: .pv (.int .i64) :: dz 100 [], [(1, false, [.pv (.int .i64), .pv Y13, .pv Y10])]⟩
def s_l6Ok_s2 : Sh := ⟨.dead :: .box 1 0 :: dz 3 (.pv (.int .i64) :: dz 98 []), [(1, false, [.pv (.int .i64), .pv Y13, .pv Y10])]⟩
def s_l6Ok_h : Hint := (.seq .no (.seq (.seq .no (.block (.loop s_l6Ok_s1 .no))) (.seq (.seq .no (.block (.loop s_l6Ok_s2 .no))) .no)))
def s_l6Ok_m (N : Nat) (d : Int) (d2 : List ((List UInt8) × (List UInt8))) (d3 : List ((List UInt8) × Int)) : Option (Bool) :=
 (iter (fun go (g : Int × Int × (List ((List UInt8) × (List UInt8))) × (List ((List UInt8) × Int))) =>
 match g with
 | (i, d4, d5, d6) =>
 (bif (decide (i < (d5.length : Int))) then
 (Option.bind (idx d5 i) fun e =>
 (Option.bind (s_l1WordOk_m N e.1) fun r =>
 (bif (!r) then
 (some false)
 else
 (Option.bind (s_l1Text_m N e.2) fun r2 =>
 (bif (!r2) then
 (some false)
 else
 (bif (decide ((0 : Int) < i)) then
 (if fits (i - 1) then (Option.bind (idx d5 (i - 1)) fun e2 =>
 (bif (Op.bytesLess e.1 e2.1 || decide (e.1 = e2.1)) then
 (some false)
 else
 (if fits (i + 1) then (go ((i + 1), d4, d5, d6)) else none))) else none)
 else
 (if fits (i + 1) then (go ((i + 1), d4, d5, d6)) else none)))))))
 else
 (iter (fun go2 (g : Int × Int × (List ((List UInt8) × (List UInt8))) × (List ((List UInt8) × Int))) =>
 match g with
 | (i2, d7, d8, d9) =>
 (bif (decide (i2 < (d9.length : Int))) then
 (Option.bind (idx d9 i2) fun e3 =>
 (Option.bind (s_l1WordOk_m N e3.1) fun r3 =>
 (bif (!r3) then
 (some false)
 else
 (Option.bind (idx d9 i2) fun e4 =>
 (Option.bind (s_l1In_m N e4.2 0 999999999) fun r4 =>
 (bif (!r4) then
 (some false)
 else
 (bif (decide ((0 : Int) < i2)) then
 (Option.bind (idx d9 i2) fun e5 =>
 (if fits (i2 - 1) then (Option.bind (idx d9 (i2 - 1)) fun e6 =>
 (bif (Op.bytesLess e5.1 e6.1 || decide (e5.1 = e6.1)) then
 (some false)
 else
 (if fits (i2 + 1) then (go2 ((i2 + 1), d7, d8, d9)) else none))) else none))
 else
 (if fits (i2 + 1) then (go2 ((i2 + 1), d7, d8, d9)) else none))))))))
 else
 (Option.bind (s_l1In_m N d7 1 9999) fun r5 =>
 (bif r5 then
 (Option.bind (s_l1In_m N (d8.length : Int) 0 3) fun r6 =>
 (bif r6 then
 (some (decide ((d9.length : Int) ≤ 3)))
 else
 (some false)))
 else
 (some false))))) N (0, d4, d5, d6)))) N (0, d, d2, d3))
def s_l6Ok_M (N : Nat) : Model := ⟨s_l6Ok_arg, s_l6Ok_ret, fun a => s_l6Ok_m N a.1 a.2.1 a.2.2⟩
set_option maxRecDepth 1000000 in
theorem s_l6Ok_ok (N : Nat) : ModelOk Tryz.prog 86 (s_l6Ok_M N) :=
  modelOk_of (E := mkEnv [(28, s_l1WordOk_M N), (114, s_l1Text_M N), (58, s_l1In_M N)] [] []) (mkEnv_ok (fnsOk_cons (s_l1WordOk_ok N) (fnsOk_cons (s_l1Text_ok N) (fnsOk_cons (s_l1In_ok N) fnsOk_nil))) _ _) Tryz.func86 (by kernel_rfl) rfl N s_l6Ok_h (s_l6Ok_M N) (by kernel_rfl) (by kernel_rfl) (fun a => by kernel_rfl)
/-! loop.example/fossick/spec.l6Docs -/
def s_l6Docs_arg : Sh := ⟨[.pv (.sl (.pair (.int .i64) (.pair (.sl (.pair .str .str)) (.sl (.pair .str (.int .i64))))))], []⟩
def s_l6Docs_ret : Sh := ⟨[.pv .bool], []⟩
def s_l6Docs_s1 : Sh := ⟨.pv Y0 :: .dead :: .dead :: .pv (.int .i64) :: dz 33 [], []⟩
def s_l6Docs_h : Hint := (.seq .no (.seq (.seq .no (.block (.loop s_l6Docs_s1 .no))) .no))
def s_l6Docs_m (N : Nat) (list : List (Int × (List ((List UInt8) × (List UInt8))) × (List ((List UInt8) × Int)))) : Option (Bool) :=
 (iter (fun go (g : (List (Int × (List ((List UInt8) × (List UInt8))) × (List ((List UInt8) × Int)))) × Int) =>
 match g with
 | (list2, i) =>
 (bif (decide (i < (list2.length : Int))) then
 (Option.bind (idx list2 i) fun e =>
 (Option.bind (s_l6Ok_m N e.1 e.2.1 e.2.2) fun r =>
 (bif (!r) then
 (some false)
 else
 (bif (decide ((0 : Int) < i)) then
 (Option.bind (idx list2 i) fun e2 =>
 (if fits (i - 1) then (Option.bind (idx list2 (i - 1)) fun e3 =>
 (bif (decide (e2.1 ≤ e3.1)) then
 (some false)
 else
 (if fits (i + 1) then (go (list2, (i + 1))) else none))) else none))
 else
 (if fits (i + 1) then (go (list2, (i + 1))) else none)))))
 else
 (some (decide ((list2.length : Int) ≤ 16))))) N (list, 0))
def s_l6Docs_M (N : Nat) : Model := ⟨s_l6Docs_arg, s_l6Docs_ret, fun a => s_l6Docs_m N a⟩
set_option maxRecDepth 1000000 in
theorem s_l6Docs_ok (N : Nat) : ModelOk Tryz.prog 54 (s_l6Docs_M N) :=
  modelOk_of (E := mkEnv [(86, s_l6Ok_M N)] [] []) (mkEnv_ok (fnsOk_cons (s_l6Ok_ok N) fnsOk_nil) _ _) Tryz.func54 (by kernel_rfl) rfl N s_l6Docs_h (s_l6Docs_M N) (by kernel_rfl) (by kernel_rfl) (fun a => by kernel_rfl)
/-! loop.example/fossick/spec.l7SameInts -/
def s_l7SameInts_arg : Sh := ⟨[.pv (.sl (.int .i64)), .pv (.sl (.int .i64))], []⟩
def s_l7SameInts_ret : Sh := ⟨[.pv .bool], []⟩
def s_l7SameInts_s1 : Sh := ⟨.pv Y16 :: .pv Y16 :: dz 3 (.pv (.int .i64) :: dz 20 []), []⟩
def s_l7SameInts_h : Hint := (.seq .no (.seq .no (.seq (.seq .no (.block (.loop s_l7SameInts_s1 .no))) .no)))
def s_l7SameInts_m (N : Nat) (a : List Int) (b : List Int) : Option (Bool) :=
 (bif (!decide ((a.length : Int) = (b.length : Int))) then
 (some false)
 else
 (iter (fun go (g : (List Int) × (List Int) × Int) =>
 match g with
 | (a2, b2, i) =>
 (bif (decide (i < (a2.length : Int))) then
 (Option.bind (idx a2 i) fun e =>
 (Option.bind (idx b2 i) fun e2 =>
 (bif (!decide (e = e2)) then
 (some false)
 else
 (if fits (i + 1) then (go (a2, b2, (i + 1))) else none))))
 else
 (some true))) N (a, b, 0)))
def s_l7SameInts_M (N : Nat) : Model := ⟨s_l7SameInts_arg, s_l7SameInts_ret, fun a => s_l7SameInts_m N a.1 a.2⟩
set_option maxRecDepth 1000000 in
theorem s_l7SameInts_ok (N : Nat) : ModelOk Tryz.prog 91 (s_l7SameInts_M N) :=
  modelOk_of (E := mkEnv [] [] []) (mkEnv_ok fnsOk_nil _ _) Tryz.func91 (by kernel_rfl) rfl N s_l7SameInts_h (s_l7SameInts_M N) (by kernel_rfl) (by kernel_rfl) (fun a => by kernel_rfl)
/-! loop.example/fossick/spec.l7SameEntry -/
def s_l7SameEntry_arg : Sh := ⟨[.agg [.pv .str, .pv .str, .pv (.sl (.pair (.int .i64) (.sl (.int .i64))))], .agg [.pv .str, .pv .str, .pv (.sl (.pair (.int .i64) (.sl (.int .i64))))]], []⟩
def s_l7SameEntry_ret : Sh := ⟨[.pv .bool], []⟩
def s_l7SameEntry_s1 : Sh := ⟨.dead :: .dead :: .box 2 0 :: .box 3 0 :: .dead :: .pv (.int .i64) :: dz 57 [], [(2, false, [.pv .str, .pv .str, .pv Y8]), (3, false, [.pv .str, .pv .str, .pv Y8])]⟩
def s_l7SameEntry_h : Hint := (.seq .no (.seq .no (.seq (.seq .no (.block (.loop s_l7SameEntry_s1 .no))) .no)))
def s_l7SameEntry_m (N : Nat) (a : List UInt8) (a2 : List UInt8) (a3 : List (Int × (List Int))) (b : List UInt8) (b2 : List UInt8) (b3 : List (Int × (List Int))) : Option (Bool) :=
 (bif (!decide (a = b)) then
 (some false)
 else
 (bif (!decide (a2 = b2)) then
 (some false)
 else
 (bif (!decide ((a3.length : Int) = (b3.length : Int))) then
 (some false)
 else
 (iter (fun go (g : Int × (List UInt8) × (List UInt8) × (List (Int × (List Int))) × (List UInt8) × (List UInt8) × (List (Int × (List Int)))) =>
 match g with
 | (i, a4, a5, a6, b4, b5, b6) =>
 (bif (decide (i < (a6.length : Int))) then
 (Option.bind (idx a6 i) fun e =>
 (Option.bind (idx b6 i) fun e2 =>
 (bif (!decide (e.1 = e2.1)) then
 (some false)
 else
 (Option.bind (idx a6 i) fun e3 =>
 (Option.bind (idx b6 i) fun e4 =>
 (Option.bind (s_l7SameInts_m N e3.2 e4.2) fun r =>
 (bif (!r) then
 (some false)
 else
 (if fits (i + 1) then (go ((i + 1), a4, a5, a6, b4, b5, b6)) else none))))))))
 else
 (some true))) N (0, a, a2, a3, b, b2, b3)))))
def s_l7SameEntry_M (N : Nat) : Model := ⟨s_l7SameEntry_arg, s_l7SameEntry_ret, fun a => s_l7SameEntry_m N a.1 a.2.1 a.2.2.1 a.2.2.2.1 a.2.2.2.2.1 a.2.2.2.2.2⟩
set_option maxRecDepth 1000000 in
theorem s_l7SameEntry_ok (N : Nat) : ModelOk Tryz.prog 56 (s_l7SameEntry_M N) :=
  modelOk_of (E := mkEnv [(91, s_l7SameInts_M N)] [] []) (mkEnv_ok (fnsOk_cons (s_l7SameInts_ok N) fnsOk_nil) _ _) Tryz.func56 (by kernel_rfl) rfl N s_l7SameEntry_h (s_l7SameEntry_M N) (by kernel_rfl) (by kernel_rfl) (fun a => by kernel_rfl)
/-! loop.example/fossick/spec.l7Ok -/
def s_l7Ok_arg : Sh := ⟨[.agg [.pv (.sl .str), .pv (.sl (.pair (.sl .str) .str))], .agg [.pv (.sl (.pair (.int .i64) (.pair (.sl (.pair .str .str)) (.sl (.pair .str (.int .i64)))))), .pv (.sl (.pair .str (.pair .str (.sl (.pair (.int .i64) (.sl (.int .i64)))))))]], []⟩
def s_l7Ok_ret : Sh := ⟨[.pv .bool], []⟩
def s_l7Ok_s1 : Sh := ⟨dz 3 (.box 3 0 :: .dead :: .box 5 0 :: .pv (.int .i64) :: dz 39 []), [(3, false, [.pv Y0, .pv Y2]), (5, false, [.own 700500 Y1 102 true, .own 700501 Y3 66 true])]⟩
def s_l7Ok_h : Hint := (.seq .no (.seq .no (.seq .no (.seq .no (.seq (.seq .no (.block (.loop s_l7Ok_s1 .no))) .no)))))
def s_l7Ok_m (N : Nat) (c : List (List UInt8)) (c2 : List ((List (List UInt8)) × (List UInt8))) (s : List (Int × (List ((List UInt8) × (List UInt8))) × (List ((List UInt8) × Int)))) (s2 : List ((List UInt8) × (List UInt8) × (List (Int × (List Int))))) : Option (Bool) :=
 (Option.bind (s_l2Ok_m N c c2) fun r =>
 (bif (!r) then
 (some false)
 else
 (Option.bind (s_l6Docs_m N s) fun r2 =>
 (bif (!r2) then
 (some false)
 else
 (Option.bind (s_l7Of_m N c c2 s) fun r3 =>
 (bif (!decide ((r3.2.length : Int) = (s2.length : Int))) then
 (some false)
 else
 (iter (fun go (g : Int × (List (Int × (List ((List UInt8) × (List UInt8))) × (List ((List UInt8) × Int)))) × (List ((List UInt8) × (List UInt8) × (List (Int × (List Int))))) × (List (Int × (List ((List UInt8) × (List UInt8))) × (List ((List UInt8) × Int)))) × (List ((List UInt8) × (List UInt8) × (List (Int × (List Int)))))) =>
 match g with
 | (i, s3, s4, x, x2) =>
 (bif (decide (i < (x2.length : Int))) then
 (Option.bind (idx x2 i) fun e =>
 (Option.bind (idx s4 i) fun e2 =>
 (Option.bind (s_l7SameEntry_m N e.1 e.2.1 e.2.2 e2.1 e2.2.1 e2.2.2) fun r4 =>
 (bif (!r4) then
 (some false)
 else
 (if fits (i + 1) then (go ((i + 1), s3, s4, x, x2)) else none)))))
 else
 (some true))) N (0, s, s2, r3.1, r3.2))))))))
def s_l7Ok_M (N : Nat) : Model := ⟨s_l7Ok_arg, s_l7Ok_ret, fun a => s_l7Ok_m N a.1 a.2.1 a.2.2.1 a.2.2.2⟩
set_option maxRecDepth 1000000 in
theorem s_l7Ok_ok (N : Nat) : ModelOk Tryz.prog 27 (s_l7Ok_M N) :=
  modelOk_of (E := mkEnv [(53, s_l2Ok_M N), (54, s_l6Docs_M N), (55, s_l7Of_M N), (56, s_l7SameEntry_M N)] [] []) (mkEnv_ok (fnsOk_cons (s_l2Ok_ok N) (fnsOk_cons (s_l6Docs_ok N) (fnsOk_cons (s_l7Of_ok N) (fnsOk_cons (s_l7SameEntry_ok N) fnsOk_nil)))) _ _) Tryz.func27 (by kernel_rfl) rfl N s_l7Ok_h (s_l7Ok_M N) (by kernel_rfl) (by kernel_rfl) (fun a => by kernel_rfl)
/-! loop.example/fossick/spec.l5Min -/
def s_l5Min_arg : Sh := ⟨[.pv (.int .i64), .pv (.int .i64)], []⟩
def s_l5Min_ret : Sh := ⟨[.pv (.int .i64)], []⟩
def s_l5Min_h : Hint := .no
def s_l5Min_m (N : Nat) (a : Int) (b : Int) : Option (Int) :=
 (bif (decide (a < b)) then
 (some a)
 else
 (some b))
def s_l5Min_M (N : Nat) : Model := ⟨s_l5Min_arg, s_l5Min_ret, fun a => s_l5Min_m N a.1 a.2⟩
set_option maxRecDepth 1000000 in
theorem s_l5Min_ok (N : Nat) : ModelOk Tryz.prog 60 (s_l5Min_M N) :=
  modelOk_of (E := mkEnv [] [] []) (mkEnv_ok fnsOk_nil _ _) Tryz.func60 (by kernel_rfl) rfl N s_l5Min_h (s_l5Min_M N) (by kernel_rfl) (by kernel_rfl) (fun a => by kernel_rfl)
/-! loop.example/fossick/spec.l5Far -/
def s_l5Far_arg : Sh := ⟨[.pv .str, .pv .str], []⟩
def s_l5Far_ret : Sh := ⟨[.pv (.int .i64)], []⟩
def s_l5Far_s1 : Sh := ⟨.pv .str :: .pv .str :: dz 3 (.mtk 600005 (.int .i64) 3 true :: .pv (.int .i64) :: dz 74 []), []⟩
def s_l5Far_s2 : Sh := ⟨.pv .str :: .pv .str :: dz 3 (.mtk 600005 (.int .i64) 3 true :: .dead :: .pv (.int .i64) :: dz 73 []), []⟩
def s_l5Far_s3 : Sh := ⟨.pv .str :: .pv .str :: dz 3 (.mtk 600005 (.int .i64) 3 true :: .dead :: .pv (.int .i64) :: .pv (.int .i64) :: .pv (.int .i64) :: dz 71 []), []⟩
def s_l5Far_s4 : Sh := ⟨.pv .str :: .pv .str :: dz 3 (.mtk 600005 (.int .i64) 3 true :: .dead :: .pv (.int .i64) :: .dead :: .pv (.int .i64) :: .pv (.int .i64) :: dz 70 []), []⟩
def s_l5Far_h : Hint := (.seq .no (.seq .no (.seq (.seq .no (.block (.loop s_l5Far_s1 .no))) (.seq (.seq .no (.block (.loop s_l5Far_s2 (.seq .no (.seq (.block (.seq .no (.seq .no (.seq .no (.block (.loop s_l5Far_s3 (.seq .no (.seq (.block (.seq .no (.meet s_l5Far_s4 .no .no))) .no)))))))) .no))))) .no))))
def s_l5Far_m (N : Nat) (a : List UInt8) (b : List UInt8) : Option (Int) :=
 (if fits ((b.length : Int) + 1) then (if ((b.length : Int) + 1) = ((b.length : Int) + 1) ∧ 0 ≤ ((b.length : Int) + 1) ∧ ((b.length : Int) + 1) * 8 ≤ 140737488355328 ∧ ((b.length : Int) + 1) ≤ 140737488355328 then
 (iter (fun go (g : (List UInt8) × (List UInt8) × (List Int) × Int) =>
 match g with
 | (a2, b2, row, k) =>
 (bif (decide (k ≤ (b2.length : Int))) then
 (if 0 ≤ k ∧ k < (row.length : Int) then
 (Option.bind (row[k.toNat]?) fun e =>
 (if fits (k + 1) then (go (a2, b2, (row.set k.toNat k), (k + 1))) else none))
 else none)
 else
 (iter (fun go2 (g : (List UInt8) × (List UInt8) × (List Int) × Int) =>
 match g with
 | (a3, b3, row2, i) =>
 (bif (decide (i < (a3.length : Int))) then
 (if 0 ≤ (0 : Int) ∧ (0 : Int) < (row2.length : Int) then
 (Option.bind (row2[(0 : Int).toNat]?) fun e2 =>
 (if fits (i + 1) then (if 0 ≤ (0 : Int) ∧ (0 : Int) < (row2.length : Int) then
 (Option.bind (row2[(0 : Int).toNat]?) fun e3 =>
 (iter (fun go3 (g : (List UInt8) × (List UInt8) × (List Int) × Int × Int × Int) =>
 match g with
 | (a4, b4, row3, i2, ahead, k2) =>
 (bif (decide (k2 < (b4.length : Int))) then
 (meet (fun (g : (List UInt8) × (List UInt8) × (List Int) × Int × Int × Int) =>
 match g with
 | (a5, b5, row4, i3, k3, n) =>
 (if fits (k3 + 1) then (if 0 ≤ (k3 + 1) ∧ (k3 + 1) < (row4.length : Int) then
 (Option.bind (row4[(k3 + 1).toNat]?) fun e4 =>
 (if fits (k3 + 1) then (if 0 ≤ k3 ∧ k3 < (row4.length : Int) then
 (Option.bind (row4[k3.toNat]?) fun e5 =>
 (if fits (k3 + 1) then (if 0 ≤ (k3 + 1) ∧ (k3 + 1) < (row4.length : Int) then
 (Option.bind (row4[(k3 + 1).toNat]?) fun e6 =>
 (Option.bind (s_l5Min_m N e5 e6) fun r =>
 (if fits (r + 1) then (Option.bind (s_l5Min_m N n (r + 1)) fun r2 =>
 (if 0 ≤ (k3 + 1) ∧ (k3 + 1) < (row4.length : Int) then
 (Option.bind (row4[(k3 + 1).toNat]?) fun e7 =>
 (if fits (k3 + 1) then (go3 (a5, b5, (row4.set (k3 + 1).toNat r2), i3, e4, (k3 + 1))) else none))
 else none)) else none)))
 else none) else none))
 else none) else none))
 else none) else none)) fun J =>
 (Option.bind (idx a4 i2) fun c =>
 (Option.bind (idx b4 k2) fun c2 =>
 (bif (!decide ((c.toNat : Int) = (c2.toNat : Int))) then
 (if fits (ahead + 1) then (J (a4, b4, row3, i2, k2, (ahead + 1))) else none)
 else
 (J (a4, b4, row3, i2, k2, ahead))))))
 else
 (if fits (i2 + 1) then (go2 (a4, b4, row3, (i2 + 1))) else none))) N (a3, b3, (row2.set (0 : Int).toNat (i + 1)), i, e2, 0)))
 else none) else none))
 else none)
 else
 (if 0 ≤ (b3.length : Int) ∧ (b3.length : Int) < (row2.length : Int) then
 (Option.bind (row2[(b3.length : Int).toNat]?) fun e8 =>
 (some e8))
 else none))) N (a2, b2, row, 0)))) N (a, b, (List.replicate ((b.length : Int) + 1).toNat 0), 0))
 else none) else none)
def s_l5Far_M (N : Nat) : Model := ⟨s_l5Far_arg, s_l5Far_ret, fun a => s_l5Far_m N a.1 a.2⟩
set_option maxRecDepth 1000000 in
theorem s_l5Far_ok (N : Nat) : ModelOk Tryz.prog 30 (s_l5Far_M N) :=
  modelOk_of (E := mkEnv [(60, s_l5Min_M N)] [14] []) (mkEnv_ok (fnsOk_cons (s_l5Min_ok N) fnsOk_nil) _ _) Tryz.func30 (by kernel_rfl) rfl N s_l5Far_h (s_l5Far_M N) (by kernel_rfl) (by kernel_rfl) (fun a => by kernel_rfl)
/-! loop.example/fossick/spec.SpellOf -/
def s_SpellOf_arg : Sh := ⟨[.agg [.pv (.sl .str), .pv (.sl (.pair (.sl .str) .str))], .agg [.pv (.sl (.pair (.int .i64) (.pair (.sl (.pair .str .str)) (.sl (.pair .str (.int .i64)))))), .pv (.sl (.pair .str (.pair .str (.sl (.pair (.int .i64) (.sl (.int .i64)))))))], .pv .str, .pv .str], []⟩
def s_SpellOf_ret : Sh := ⟨[.pv .str], []⟩
def s_SpellOf_s1 : Sh := ⟨.dead :: .dead :: .pv .str :: .dead :: .dead :: .box 5 0 :: dz 3 (.pv .str :: .pv (.int .i64) :: .pv (.int .i64) :: .pv .str :: .pv (.int .i64) :: dz 61 []), [(5, false, [.pv Y0, .pv Y2])]⟩
def s_SpellOf_s2 : Sh := ⟨.dead :: .dead :: .pv .str :: .dead :: .dead :: .box 5 0 :: dz 3 (.pv .str :: .pv (.int .i64) :: .pv (.int .i64) :: .pv .str :: .pv (.int .i64) :: .box 14 0 :: .pv (.int .i64) :: dz 59 []), [(5, false, [.pv Y0, .pv Y2]), (14, false, [.pv .str, .pv .str, .pv Y8])]⟩
def s_SpellOf_s3 : Sh := ⟨.dead :: .dead :: .pv .str :: .dead :: .dead :: .box 5 0 :: dz 3 (.pv .str :: .pv (.int .i64) :: .pv (.int .i64) :: .pv .str :: dz 62 []), [(5, false, [.pv Y0, .pv Y2])]⟩
def s_SpellOf_s4 : Sh := ⟨.dead :: .dead :: .pv .str :: .pv .str :: .dead :: .box 5 0 :: dz 3 (.pv .str :: .pv (.int .i64) :: .pv (.int .i64) :: dz 63 []), [(5, false, [.pv Y0, .pv Y2])]⟩
def s_SpellOf_h : Hint := (.seq .no (.seq .no (.seq .no (.seq .no (.meet s_SpellOf_s4 .no (.meet s_SpellOf_s3 .no (.seq (.seq .no (.block (.loop s_SpellOf_s1 (.seq .no (.seq (.block (.seq .no (.meet s_SpellOf_s2 .no .no))) .no))))) .no)))))))
def s_SpellOf_m (N : Nat) (c : List (List UInt8)) (c2 : List ((List (List UInt8)) × (List UInt8))) (s : List (Int × (List ((List UInt8) × (List UInt8))) × (List ((List UInt8) × Int)))) (s2 : List ((List UInt8) × (List UInt8) × (List (Int × (List Int))))) (field : List UInt8) (word : List UInt8) : Option ((List UInt8)) :=
 (meet (fun (g : (List UInt8) × (List UInt8) × (List UInt8) × Int × Int × (List (Int × (List ((List UInt8) × (List UInt8))) × (List ((List UInt8) × Int)))) × (List ((List UInt8) × (List UInt8) × (List (Int × (List Int)))))) =>
 match g with
 | (field2, word2, best, far, docs, s3, s4) =>
 (meet (fun (g : (List UInt8) × (List UInt8) × Int × Int × (List UInt8) × (List (Int × (List ((List UInt8) × (List UInt8))) × (List ((List UInt8) × Int)))) × (List ((List UInt8) × (List UInt8) × (List (Int × (List Int)))))) =>
 match g with
 | (field3, best2, far2, docs2, stem, s5, s6) =>
 (iter (fun go (g : (List UInt8) × (List UInt8) × Int × Int × (List UInt8) × Int × (List (Int × (List ((List UInt8) × (List UInt8))) × (List ((List UInt8) × Int)))) × (List ((List UInt8) × (List UInt8) × (List (Int × (List Int)))))) =>
 match g with
 | (field4, best3, far3, docs3, stem2, i, s7, s8) =>
 (bif (decide (i < (s8.length : Int))) then
 (Option.bind (idx s8 i) fun e =>
 (meet (fun (g : (List UInt8) × (List UInt8) × Int × Int × (List UInt8) × Int × Int × (List (Int × (List ((List UInt8) × (List UInt8))) × (List ((List UInt8) × Int)))) × (List ((List UInt8) × (List UInt8) × (List (Int × (List Int))))) × (List UInt8) × (List UInt8) × (List (Int × (List Int)))) =>
 match g with
 | (field5, best4, far4, docs4, stem3, i2, d, s9, s10, e2, e3, e4) =>
 (bif (decide (e2 = field5)) then
 (bif (decide (d < far4)) then
 (if fits (i2 + 1) then (go (field5, e3, d, (e4.length : Int), stem3, (i2 + 1), s9, s10)) else none)
 else
 (bif (decide (d = far4)) then
 (bif (decide (d ≤ 2)) then
 (bif (decide (docs4 < (e4.length : Int))) then
 (if fits (i2 + 1) then (go (field5, e3, d, (e4.length : Int), stem3, (i2 + 1), s9, s10)) else none)
 else
 (if fits (i2 + 1) then (go (field5, best4, far4, docs4, stem3, (i2 + 1), s9, s10)) else none))
 else
 (if fits (i2 + 1) then (go (field5, best4, far4, docs4, stem3, (i2 + 1), s9, s10)) else none))
 else
 (if fits (i2 + 1) then (go (field5, best4, far4, docs4, stem3, (i2 + 1), s9, s10)) else none)))
 else
 (if fits (i2 + 1) then (go (field5, best4, far4, docs4, stem3, (i2 + 1), s9, s10)) else none))) fun J3 =>
 (Option.bind (s_l5Far_m N e.2.1 stem2) fun r4 =>
 (J3 (field4, best3, far3, docs3, stem2, i, r4, s7, s8, e.1, e.2.1, e.2.2)))))
 else
 (some best3))) N (field3, best2, far2, docs2, stem, 0, s5, s6))) fun J2 =>
 (Option.bind (s_l2Stem_m N word2) fun r3 =>
 (J2 (field2, best, far, docs, r3, s3, s4))))) fun J =>
 (Option.bind (s_l7Ok_m N c c2 s s2) fun r =>
 (bif (!r) then
 (some ([] : List UInt8))
 else
 (Option.bind (s_l1WordOk_m N word) fun r2 =>
 (bif (!r2) then
 (some ([] : List UInt8))
 else
 (J (field, word, ([] : List UInt8), 3, 0, s, s2)))))))
def s_SpellOf_M (N : Nat) : Model := ⟨s_SpellOf_arg, s_SpellOf_ret, fun a => s_SpellOf_m N a.1 a.2.1 a.2.2.1 a.2.2.2.1 a.2.2.2.2.1 a.2.2.2.2.2⟩
set_option maxRecDepth 1000000 in
theorem s_SpellOf_ok (N : Nat) : ModelOk Tryz.prog 7 (s_SpellOf_M N) :=
  modelOk_of (E := mkEnv [(27, s_l7Ok_M N), (28, s_l1WordOk_M N), (29, s_l2Stem_M N), (30, s_l5Far_M N)] [] []) (mkEnv_ok (fnsOk_cons (s_l7Ok_ok N) (fnsOk_cons (s_l1WordOk_ok N) (fnsOk_cons (s_l2Stem_ok N) (fnsOk_cons (s_l5Far_ok N) fnsOk_nil)))) _ _) Tryz.func7 (by kernel_rfl) rfl N s_SpellOf_h (s_SpellOf_M N) (by kernel_rfl) (by kernel_rfl) (fun a => by kernel_rfl)
/-! loop.example/fossick/laws.szStringS -/
def l_szStringS_arg : Sh := ⟨[.pv (.sl .str), .pv (.int .i64)], []⟩
def l_szStringS_ret : Sh := ⟨[.pv (.int .i64)], []⟩
def l_szStringS_s1 : Sh := ⟨.pv (.sl .str) :: .pv (.int .i64) :: dz 3 (.pv (.int .i64) :: dz 22 []), []⟩
def l_szStringS_h : Hint := (.seq .no (.seq .no (.seq .no (.seq (.seq .no (.block (.loop l_szStringS_s1 .no))) .no))))
def l_szStringS_m (N : Nat) (a : List (List UInt8)) (left : Int) : Option (Int) :=
 (if fits (left - (a.length : Int)) then (bif (decide ((left - (a.length : Int)) < 0)) then
 (some (-1))
 else
 (iter (fun go (g : (List (List UInt8)) × Int × Int) =>
 match g with
 | (a2, left2, i) =>
 (bif (decide (i < (a2.length : Int))) then
 (Option.bind (idx a2 i) fun e =>
 (if fits (left2 - (e.length : Int)) then (bif (decide ((left2 - (e.length : Int)) < 0)) then
 (some (-1))
 else
 (if fits (i + 1) then (go (a2, (left2 - (e.length : Int)), (i + 1))) else none)) else none))
 else
 (some left2))) N (a, (left - (a.length : Int)), 0))) else none)
def l_szStringS_M (N : Nat) : Model := ⟨l_szStringS_arg, l_szStringS_ret, fun a => l_szStringS_m N a.1 a.2⟩
set_option maxRecDepth 1000000 in
theorem l_szStringS_ok (N : Nat) : ModelOk Tryz.prog 39 (l_szStringS_M N) :=
  modelOk_of (E := mkEnv [] [] []) (mkEnv_ok fnsOk_nil _ _) Tryz.func39 (by kernel_rfl) rfl N l_szStringS_h (l_szStringS_M N) (by kernel_rfl) (by kernel_rfl) (fun a => by kernel_rfl)
/-! loop.example/fossick/laws.szSyn -/
def l_szSyn_arg : Sh := ⟨[.agg [.pv (.sl .str), .pv .str], .pv (.int .i64)], []⟩
def l_szSyn_ret : Sh := ⟨[.pv (.int .i64)], []⟩
def l_szSyn_h : Hint := .no
def l_szSyn_m (N : Nat) (a : List (List UInt8)) (a2 : List UInt8) (left : Int) : Option (Int) :=
 (Option.bind (l_szStringS_m N a left) fun r =>
 (bif (decide (r < 0)) then
 (some (-1))
 else
 (if fits (r - (a2.length : Int)) then (bif (decide ((r - (a2.length : Int)) < 0)) then
 (some (-1))
 else
 (some (r - (a2.length : Int)))) else none)))
def l_szSyn_M (N : Nat) : Model := ⟨l_szSyn_arg, l_szSyn_ret, fun a => l_szSyn_m N a.1 a.2.1 a.2.2⟩
set_option maxRecDepth 1000000 in
theorem l_szSyn_ok (N : Nat) : ModelOk Tryz.prog 74 (l_szSyn_M N) :=
  modelOk_of (E := mkEnv [(39, l_szStringS_M N)] [] []) (mkEnv_ok (fnsOk_cons (l_szStringS_ok N) fnsOk_nil) _ _) Tryz.func74 (by kernel_rfl) rfl N l_szSyn_h (l_szSyn_M N) (by kernel_rfl) (by kernel_rfl) (fun a => by kernel_rfl)
/-! loop.example/fossick/laws.szSynS -/
def l_szSynS_arg : Sh := ⟨[.pv (.sl (.pair (.sl .str) .str)), .pv (.int .i64)], []⟩
def l_szSynS_ret : Sh := ⟨[.pv (.int .i64)], []⟩
def l_szSynS_s1 : Sh := ⟨.pv Y11 :: .pv (.int .i64) :: dz 3 (.pv (.int .i64) :: dz 21 []), []⟩
def l_szSynS_h : Hint := (.seq .no (.seq .no (.seq .no (.seq (.seq .no (.block (.loop l_szSynS_s1 .no))) .no))))
def l_szSynS_m (N : Nat) (a : List ((List (List UInt8)) × (List UInt8))) (left : Int) : Option (Int) :=
 (if fits (left - (a.length : Int)) then (bif (decide ((left - (a.length : Int)) < 0)) then
 (some (-1))
 else
 (iter (fun go (g : (List ((List (List UInt8)) × (List UInt8))) × Int × Int) =>
 match g with
 | (a2, left2, i) =>
 (bif (decide (i < (a2.length : Int))) then
 (Option.bind (idx a2 i) fun e =>
 (Option.bind (l_szSyn_m N e.1 e.2 left2) fun r =>
 (bif (decide (r < 0)) then
 (some (-1))
 else
 (if fits (i + 1) then (go (a2, r, (i + 1))) else none))))
 else
 (some left2))) N (a, (left - (a.length : Int)), 0))) else none)
def l_szSynS_M (N : Nat) : Model := ⟨l_szSynS_arg, l_szSynS_ret, fun a => l_szSynS_m N a.1 a.2⟩
set_option maxRecDepth 1000000 in
theorem l_szSynS_ok (N : Nat) : ModelOk Tryz.prog 40 (l_szSynS_M N) :=
  modelOk_of (E := mkEnv [(74, l_szSyn_M N)] [] []) (mkEnv_ok (fnsOk_cons (l_szSyn_ok N) fnsOk_nil) _ _) Tryz.func40 (by kernel_rfl) rfl N l_szSynS_h (l_szSynS_M N) (by kernel_rfl) (by kernel_rfl) (fun a => by kernel_rfl)
/-! loop.example/fossick/laws.szConf -/
def l_szConf_arg : Sh := ⟨[.agg [.pv (.sl .str), .pv (.sl (.pair (.sl .str) .str))], .pv (.int .i64)], []⟩
def l_szConf_ret : Sh := ⟨[.pv (.int .i64)], []⟩
def l_szConf_h : Hint := .no
def l_szConf_m (N : Nat) (a : List (List UInt8)) (a2 : List ((List (List UInt8)) × (List UInt8))) (left : Int) : Option (Int) :=
 (Option.bind (l_szStringS_m N a left) fun r =>
 (bif (decide (r < 0)) then
 (some (-1))
 else
 (Option.bind (l_szSynS_m N a2 r) fun r2 =>
 (bif (decide (r2 < 0)) then
 (some (-1))
 else
 (some r2)))))
def l_szConf_M (N : Nat) : Model := ⟨l_szConf_arg, l_szConf_ret, fun a => l_szConf_m N a.1 a.2.1 a.2.2⟩
set_option maxRecDepth 1000000 in
theorem l_szConf_ok (N : Nat) : ModelOk Tryz.prog 15 (l_szConf_M N) :=
  modelOk_of (E := mkEnv [(39, l_szStringS_M N), (40, l_szSynS_M N)] [] []) (mkEnv_ok (fnsOk_cons (l_szStringS_ok N) (fnsOk_cons (l_szSynS_ok N) fnsOk_nil)) _ _) Tryz.func15 (by kernel_rfl) rfl N l_szConf_h (l_szConf_M N) (by kernel_rfl) (by kernel_rfl) (fun a => by kernel_rfl)
/-! loop.example/fossick/laws.szField -/
def l_szField_arg : Sh := ⟨[.agg [.pv .str, .pv .str], .pv (.int .i64)], []⟩
def l_szField_ret : Sh := ⟨[.pv (.int .i64)], []⟩
def l_szField_h : Hint := .no
def l_szField_m (N : Nat) (a : List UInt8) (a2 : List UInt8) (left : Int) : Option (Int) :=
 (if fits (left - (a.length : Int)) then (bif (decide ((left - (a.length : Int)) < 0)) then
 (some (-1))
 else
 (if fits ((left - (a.length : Int)) - (a2.length : Int)) then (bif (decide (((left - (a.length : Int)) - (a2.length : Int)) < 0)) then
 (some (-1))
 else
 (some ((left - (a.length : Int)) - (a2.length : Int)))) else none)) else none)
def l_szField_M (N : Nat) : Model := ⟨l_szField_arg, l_szField_ret, fun a => l_szField_m N a.1 a.2.1 a.2.2⟩
set_option maxRecDepth 1000000 in
theorem l_szField_ok (N : Nat) : ModelOk Tryz.prog 130 (l_szField_M N) :=
  modelOk_of (E := mkEnv [] [] []) (mkEnv_ok fnsOk_nil _ _) Tryz.func130 (by kernel_rfl) rfl N l_szField_h (l_szField_M N) (by kernel_rfl) (by kernel_rfl) (fun a => by kernel_rfl)
/-! loop.example/fossick/laws.szFieldS -/
def l_szFieldS_arg : Sh := ⟨[.pv (.sl (.pair .str .str)), .pv (.int .i64)], []⟩
def l_szFieldS_ret : Sh := ⟨[.pv (.int .i64)], []⟩
def l_szFieldS_s1 : Sh := ⟨.pv Y13 :: .pv (.int .i64) :: dz 3 (.pv (.int .i64) :: dz 21 []), []⟩
def l_szFieldS_h : Hint := (.seq .no (.seq .no (.seq .no (.seq (.seq .no (.block (.loop l_szFieldS_s1 .no))) .no))))
def l_szFieldS_m (N : Nat) (a : List ((List UInt8) × (List UInt8))) (left : Int) : Option (Int) :=
 (if fits (left - (a.length : Int)) then (bif (decide ((left - (a.length : Int)) < 0)) then
 (some (-1))
 else
 (iter (fun go (g : (List ((List UInt8) × (List UInt8))) × Int × Int) =>
 match g with
 | (a2, left2, i) =>
 (bif (decide (i < (a2.length : Int))) then
 (Option.bind (idx a2 i) fun e =>
 (Option.bind (l_szField_m N e.1 e.2 left2) fun r =>
 (bif (decide (r < 0)) then
 (some (-1))
 else
 (if fits (i + 1) then (go (a2, r, (i + 1))) else none))))
 else
 (some left2))) N (a, (left - (a.length : Int)), 0))) else none)
def l_szFieldS_M (N : Nat) : Model := ⟨l_szFieldS_arg, l_szFieldS_ret, fun a => l_szFieldS_m N a.1 a.2⟩
set_option maxRecDepth 1000000 in
theorem l_szFieldS_ok (N : Nat) : ModelOk Tryz.prog 104 (l_szFieldS_M N) :=
  modelOk_of (E := mkEnv [(130, l_szField_M N)] [] []) (mkEnv_ok (fnsOk_cons (l_szField_ok N) fnsOk_nil) _ _) Tryz.func104 (by kernel_rfl) rfl N l_szFieldS_h (l_szFieldS_M N) (by kernel_rfl) (by kernel_rfl) (fun a => by kernel_rfl)
/-! loop.example/fossick/laws.szAttr -/
def l_szAttr_arg : Sh := ⟨[.agg [.pv .str, .pv (.int .i64)], .pv (.int .i64)], []⟩
def l_szAttr_ret : Sh := ⟨[.pv (.int .i64)], []⟩
def l_szAttr_h : Hint := .no
def l_szAttr_m (N : Nat) (a : List UInt8) (a2 : Int) (left : Int) : Option (Int) :=
 (if fits (left - (a.length : Int)) then (bif (decide ((left - (a.length : Int)) < 0)) then
 (some (-1))
 else
 (some (left - (a.length : Int)))) else none)
def l_szAttr_M (N : Nat) : Model := ⟨l_szAttr_arg, l_szAttr_ret, fun a => l_szAttr_m N a.1 a.2.1 a.2.2⟩
set_option maxRecDepth 1000000 in
theorem l_szAttr_ok (N : Nat) : ModelOk Tryz.prog 131 (l_szAttr_M N) :=
  modelOk_of (E := mkEnv [] [] []) (mkEnv_ok fnsOk_nil _ _) Tryz.func131 (by kernel_rfl) rfl N l_szAttr_h (l_szAttr_M N) (by kernel_rfl) (by kernel_rfl) (fun a => by kernel_rfl)
/-! loop.example/fossick/laws.szAttrS -/
def l_szAttrS_arg : Sh := ⟨[.pv (.sl (.pair .str (.int .i64))), .pv (.int .i64)], []⟩
def l_szAttrS_ret : Sh := ⟨[.pv (.int .i64)], []⟩
def l_szAttrS_s1 : Sh := ⟨.pv Y10 :: .pv (.int .i64) :: dz 3 (.pv (.int .i64) :: dz 21 []), []⟩
def l_szAttrS_h : Hint := (.seq .no (.seq .no (.seq .no (.seq (.seq .no (.block (.loop l_szAttrS_s1 .no))) .no))))
def l_szAttrS_m (N : Nat) (a : List ((List UInt8) × Int)) (left : Int) : Option (Int) :=
 (if fits (left - (a.length : Int)) then (bif (decide ((left - (a.length : Int)) < 0)) then
 (some (-1))
 else
 (iter (fun go (g : (List ((List UInt8) × Int)) × Int × Int) =>
 match g with
 | (a2, left2, i) =>
 (bif (decide (i < (a2.length : Int))) then
 (Option.bind (idx a2 i) fun e =>
 (Option.bind (l_szAttr_m N e.1 e.2 left2) fun r =>
 (bif (decide (r < 0)) then
 (some (-1))
 else
 (if fits (i + 1) then (go (a2, r, (i + 1))) else none))))
 else
 (some left2))) N (a, (left - (a.length : Int)), 0))) else none)
def l_szAttrS_M (N : Nat) : Model := ⟨l_szAttrS_arg, l_szAttrS_ret, fun a => l_szAttrS_m N a.1 a.2⟩
set_option maxRecDepth 1000000 in
theorem l_szAttrS_ok (N : Nat) : ModelOk Tryz.prog 105 (l_szAttrS_M N) :=
  modelOk_of (E := mkEnv [(131, l_szAttr_M N)] [] []) (mkEnv_ok (fnsOk_cons (l_szAttr_ok N) fnsOk_nil) _ _) Tryz.func105 (by kernel_rfl) rfl N l_szAttrS_h (l_szAttrS_M N) (by kernel_rfl) (by kernel_rfl) (fun a => by kernel_rfl)
/-! loop.example/fossick/laws.szDoc -/
def l_szDoc_arg : Sh := ⟨[.agg [.pv (.int .i64), .pv (.sl (.pair .str .str)), .pv (.sl (.pair .str (.int .i64)))], .pv (.int .i64)], []⟩
def l_szDoc_ret : Sh := ⟨[.pv (.int .i64)], []⟩
def l_szDoc_h : Hint := .no
def l_szDoc_m (N : Nat) (a : Int) (a2 : List ((List UInt8) × (List UInt8))) (a3 : List ((List UInt8) × Int)) (left : Int) : Option (Int) :=
 (Option.bind (l_szFieldS_m N a2 left) fun r =>
 (bif (decide (r < 0)) then
 (some (-1))
 else
 (Option.bind (l_szAttrS_m N a3 r) fun r2 =>
 (bif (decide (r2 < 0)) then
 (some (-1))
 else
 (some r2)))))
def l_szDoc_M (N : Nat) : Model := ⟨l_szDoc_arg, l_szDoc_ret, fun a => l_szDoc_m N a.1 a.2.1 a.2.2.1 a.2.2.2⟩
set_option maxRecDepth 1000000 in
theorem l_szDoc_ok (N : Nat) : ModelOk Tryz.prog 75 (l_szDoc_M N) :=
  modelOk_of (E := mkEnv [(104, l_szFieldS_M N), (105, l_szAttrS_M N)] [] []) (mkEnv_ok (fnsOk_cons (l_szFieldS_ok N) (fnsOk_cons (l_szAttrS_ok N) fnsOk_nil)) _ _) Tryz.func75 (by kernel_rfl) rfl N l_szDoc_h (l_szDoc_M N) (by kernel_rfl) (by kernel_rfl) (fun a => by kernel_rfl)
/-! loop.example/fossick/laws.szDocS -/
def l_szDocS_arg : Sh := ⟨[.pv (.sl (.pair (.int .i64) (.pair (.sl (.pair .str .str)) (.sl (.pair .str (.int .i64)))))), .pv (.int .i64)], []⟩
def l_szDocS_ret : Sh := ⟨[.pv (.int .i64)], []⟩
def l_szDocS_s1 : Sh := ⟨.pv Y0 :: .pv (.int .i64) :: dz 3 (.pv (.int .i64) :: dz 21 []), []⟩
def l_szDocS_h : Hint := (.seq .no (.seq .no (.seq .no (.seq (.seq .no (.block (.loop l_szDocS_s1 .no))) .no))))
def l_szDocS_m (N : Nat) (a : List (Int × (List ((List UInt8) × (List UInt8))) × (List ((List UInt8) × Int)))) (left : Int) : Option (Int) :=
 (if fits (left - (a.length : Int)) then (bif (decide ((left - (a.length : Int)) < 0)) then
 (some (-1))
 else
 (iter (fun go (g : (List (Int × (List ((List UInt8) × (List UInt8))) × (List ((List UInt8) × Int)))) × Int × Int) =>
 match g with
 | (a2, left2, i) =>
 (bif (decide (i < (a2.length : Int))) then
 (Option.bind (idx a2 i) fun e =>
 (Option.bind (l_szDoc_m N e.1 e.2.1 e.2.2 left2) fun r =>
 (bif (decide (r < 0)) then
 (some (-1))
 else
 (if fits (i + 1) then (go (a2, r, (i + 1))) else none))))
 else
 (some left2))) N (a, (left - (a.length : Int)), 0))) else none)
def l_szDocS_M (N : Nat) : Model := ⟨l_szDocS_arg, l_szDocS_ret, fun a => l_szDocS_m N a.1 a.2⟩
set_option maxRecDepth 1000000 in
theorem l_szDocS_ok (N : Nat) : ModelOk Tryz.prog 41 (l_szDocS_M N) :=
  modelOk_of (E := mkEnv [(75, l_szDoc_M N)] [] []) (mkEnv_ok (fnsOk_cons (l_szDoc_ok N) fnsOk_nil) _ _) Tryz.func41 (by kernel_rfl) rfl N l_szDocS_h (l_szDocS_M N) (by kernel_rfl) (by kernel_rfl) (fun a => by kernel_rfl)
/-! loop.example/fossick/laws.szIntS -/
def l_szIntS_arg : Sh := ⟨[.pv (.sl (.int .i64)), .pv (.int .i64)], []⟩
def l_szIntS_ret : Sh := ⟨[.pv (.int .i64)], []⟩
def l_szIntS_h : Hint := .no
def l_szIntS_m (N : Nat) (a : List Int) (left : Int) : Option (Int) :=
 (if fits (left - (a.length : Int)) then (bif (decide ((left - (a.length : Int)) < 0)) then
 (some (-1))
 else
 (some (left - (a.length : Int)))) else none)
def l_szIntS_M (N : Nat) : Model := ⟨l_szIntS_arg, l_szIntS_ret, fun a => l_szIntS_m N a.1 a.2⟩
set_option maxRecDepth 1000000 in
theorem l_szIntS_ok (N : Nat) : ModelOk Tryz.prog 147 (l_szIntS_M N) :=
  modelOk_of (E := mkEnv [] [] []) (mkEnv_ok fnsOk_nil _ _) Tryz.func147 (by kernel_rfl) rfl N l_szIntS_h (l_szIntS_M N) (by kernel_rfl) (by kernel_rfl) (fun a => by kernel_rfl)
/-! loop.example/fossick/laws.szPost -/
def l_szPost_arg : Sh := ⟨[.agg [.pv (.int .i64), .pv (.sl (.int .i64))], .pv (.int .i64)], []⟩
def l_szPost_ret : Sh := ⟨[.pv (.int .i64)], []⟩
def l_szPost_h : Hint := .no
def l_szPost_m (N : Nat) (a : Int) (a2 : List Int) (left : Int) : Option (Int) :=
 (Option.bind (l_szIntS_m N a2 left) fun r =>
 (bif (decide (r < 0)) then
 (some (-1))
 else
 (some r)))
def l_szPost_M (N : Nat) : Model := ⟨l_szPost_arg, l_szPost_ret, fun a => l_szPost_m N a.1 a.2.1 a.2.2⟩
set_option maxRecDepth 1000000 in
theorem l_szPost_ok (N : Nat) : ModelOk Tryz.prog 132 (l_szPost_M N) :=
  modelOk_of (E := mkEnv [(147, l_szIntS_M N)] [] []) (mkEnv_ok (fnsOk_cons (l_szIntS_ok N) fnsOk_nil) _ _) Tryz.func132 (by kernel_rfl) rfl N l_szPost_h (l_szPost_M N) (by kernel_rfl) (by kernel_rfl) (fun a => by kernel_rfl)
/-! loop.example/fossick/laws.szPostS -/
def l_szPostS_arg : Sh := ⟨[.pv (.sl (.pair (.int .i64) (.sl (.int .i64)))), .pv (.int .i64)], []⟩
def l_szPostS_ret : Sh := ⟨[.pv (.int .i64)], []⟩
def l_szPostS_s1 : Sh := ⟨.pv Y8 :: .pv (.int .i64) :: dz 3 (.pv (.int .i64) :: dz 21 []), []⟩
def l_szPostS_h : Hint := (.seq .no (.seq .no (.seq .no (.seq (.seq .no (.block (.loop l_szPostS_s1 .no))) .no))))
def l_szPostS_m (N : Nat) (a : List (Int × (List Int))) (left : Int) : Option (Int) :=
 (if fits (left - (a.length : Int)) then (bif (decide ((left - (a.length : Int)) < 0)) then
 (some (-1))
 else
 (iter (fun go (g : (List (Int × (List Int))) × Int × Int) =>
 match g with
 | (a2, left2, i) =>
 (bif (decide (i < (a2.length : Int))) then
 (Option.bind (idx a2 i) fun e =>
 (Option.bind (l_szPost_m N e.1 e.2 left2) fun r =>
 (bif (decide (r < 0)) then
 (some (-1))
 else
 (if fits (i + 1) then (go (a2, r, (i + 1))) else none))))
 else
 (some left2))) N (a, (left - (a.length : Int)), 0))) else none)
def l_szPostS_M (N : Nat) : Model := ⟨l_szPostS_arg, l_szPostS_ret, fun a => l_szPostS_m N a.1 a.2⟩
set_option maxRecDepth 1000000 in
theorem l_szPostS_ok (N : Nat) : ModelOk Tryz.prog 106 (l_szPostS_M N) :=
  modelOk_of (E := mkEnv [(132, l_szPost_M N)] [] []) (mkEnv_ok (fnsOk_cons (l_szPost_ok N) fnsOk_nil) _ _) Tryz.func106 (by kernel_rfl) rfl N l_szPostS_h (l_szPostS_M N) (by kernel_rfl) (by kernel_rfl) (fun a => by kernel_rfl)
/-! loop.example/fossick/laws.szEntry -/
def l_szEntry_arg : Sh := ⟨[.agg [.pv .str, .pv .str, .pv (.sl (.pair (.int .i64) (.sl (.int .i64))))], .pv (.int .i64)], []⟩
def l_szEntry_ret : Sh := ⟨[.pv (.int .i64)], []⟩
def l_szEntry_h : Hint := .no
def l_szEntry_m (N : Nat) (a : List UInt8) (a2 : List UInt8) (a3 : List (Int × (List Int))) (left : Int) : Option (Int) :=
 (if fits (left - (a.length : Int)) then (bif (decide ((left - (a.length : Int)) < 0)) then
 (some (-1))
 else
 (if fits ((left - (a.length : Int)) - (a2.length : Int)) then (bif (decide (((left - (a.length : Int)) - (a2.length : Int)) < 0)) then
 (some (-1))
 else
 (Option.bind (l_szPostS_m N a3 ((left - (a.length : Int)) - (a2.length : Int))) fun r =>
 (bif (decide (r < 0)) then
 (some (-1))
 else
 (some r)))) else none)) else none)
def l_szEntry_M (N : Nat) : Model := ⟨l_szEntry_arg, l_szEntry_ret, fun a => l_szEntry_m N a.1 a.2.1 a.2.2.1 a.2.2.2⟩
set_option maxRecDepth 1000000 in
theorem l_szEntry_ok (N : Nat) : ModelOk Tryz.prog 76 (l_szEntry_M N) :=
  modelOk_of (E := mkEnv [(106, l_szPostS_M N)] [] []) (mkEnv_ok (fnsOk_cons (l_szPostS_ok N) fnsOk_nil) _ _) Tryz.func76 (by kernel_rfl) rfl N l_szEntry_h (l_szEntry_M N) (by kernel_rfl) (by kernel_rfl) (fun a => by kernel_rfl)
/-! loop.example/fossick/laws.szEntryS -/
def l_szEntryS_arg : Sh := ⟨[.pv (.sl (.pair .str (.pair .str (.sl (.pair (.int .i64) (.sl (.int .i64))))))), .pv (.int .i64)], []⟩
def l_szEntryS_ret : Sh := ⟨[.pv (.int .i64)], []⟩
def l_szEntryS_s1 : Sh := ⟨.pv Y2 :: .pv (.int .i64) :: dz 3 (.pv (.int .i64) :: dz 21 []), []⟩
def l_szEntryS_h : Hint := (.seq .no (.seq .no (.seq .no (.seq (.seq .no (.block (.loop l_szEntryS_s1 .no))) .no))))
def l_szEntryS_m (N : Nat) (a : List ((List UInt8) × (List UInt8) × (List (Int × (List Int))))) (left : Int) : Option (Int) :=
 (if fits (left - (a.length : Int)) then (bif (decide ((left - (a.length : Int)) < 0)) then
 (some (-1))
 else
 (iter (fun go (g : (List ((List UInt8) × (List UInt8) × (List (Int × (List Int))))) × Int × Int) =>
 match g with
 | (a2, left2, i) =>
 (bif (decide (i < (a2.length : Int))) then
 (Option.bind (idx a2 i) fun e =>
 (Option.bind (l_szEntry_m N e.1 e.2.1 e.2.2 left2) fun r =>
 (bif (decide (r < 0)) then
 (some (-1))
 else
 (if fits (i + 1) then (go (a2, r, (i + 1))) else none))))
 else
 (some left2))) N (a, (left - (a.length : Int)), 0))) else none)
def l_szEntryS_M (N : Nat) : Model := ⟨l_szEntryS_arg, l_szEntryS_ret, fun a => l_szEntryS_m N a.1 a.2⟩
set_option maxRecDepth 1000000 in
theorem l_szEntryS_ok (N : Nat) : ModelOk Tryz.prog 42 (l_szEntryS_M N) :=
  modelOk_of (E := mkEnv [(76, l_szEntry_M N)] [] []) (mkEnv_ok (fnsOk_cons (l_szEntry_ok N) fnsOk_nil) _ _) Tryz.func42 (by kernel_rfl) rfl N l_szEntryS_h (l_szEntryS_M N) (by kernel_rfl) (by kernel_rfl) (fun a => by kernel_rfl)
/-! loop.example/fossick/laws.szSeg -/
def l_szSeg_arg : Sh := ⟨[.agg [.pv (.sl (.pair (.int .i64) (.pair (.sl (.pair .str .str)) (.sl (.pair .str (.int .i64)))))), .pv (.sl (.pair .str (.pair .str (.sl (.pair (.int .i64) (.sl (.int .i64)))))))], .pv (.int .i64)], []⟩
def l_szSeg_ret : Sh := ⟨[.pv (.int .i64)], []⟩
def l_szSeg_h : Hint := .no
def l_szSeg_m (N : Nat) (a : List (Int × (List ((List UInt8) × (List UInt8))) × (List ((List UInt8) × Int)))) (a2 : List ((List UInt8) × (List UInt8) × (List (Int × (List Int))))) (left : Int) : Option (Int) :=
 (Option.bind (l_szDocS_m N a left) fun r =>
 (bif (decide (r < 0)) then
 (some (-1))
 else
 (Option.bind (l_szEntryS_m N a2 r) fun r2 =>
 (bif (decide (r2 < 0)) then
 (some (-1))
 else
 (some r2)))))
def l_szSeg_M (N : Nat) : Model := ⟨l_szSeg_arg, l_szSeg_ret, fun a => l_szSeg_m N a.1 a.2.1 a.2.2⟩
set_option maxRecDepth 1000000 in
theorem l_szSeg_ok (N : Nat) : ModelOk Tryz.prog 16 (l_szSeg_M N) :=
  modelOk_of (E := mkEnv [(41, l_szDocS_M N), (42, l_szEntryS_M N)] [] []) (mkEnv_ok (fnsOk_cons (l_szDocS_ok N) (fnsOk_cons (l_szEntryS_ok N) fnsOk_nil)) _ _) Tryz.func16 (by kernel_rfl) rfl N l_szSeg_h (l_szSeg_M N) (by kernel_rfl) (by kernel_rfl) (fun a => by kernel_rfl)
/-! loop.example/fossick/laws.toStringS -/
def l_toStringS_arg : Sh := ⟨[.pv (.sl .str)], []⟩
def l_toStringS_ret : Sh := ⟨[.own 1 .str 9 true], []⟩
def l_toStringS_s1 : Sh := ⟨.pv (.sl .str) :: .dead :: .dead :: .mtk 600003 .str 9 true :: .pv (.int .i64) :: dz 17 [], []⟩
def l_toStringS_h : Hint := (.seq .no (.seq .no (.seq (.seq .no (.block (.loop l_toStringS_s1 .no))) .no)))
def l_toStringS_m (N : Nat) (a : List (List UInt8)) : Option ((List (List UInt8))) :=
 (if (a.length : Int) = (a.length : Int) ∧ 0 ≤ (a.length : Int) ∧ (a.length : Int) * 16 ≤ 140737488355328 ∧ (a.length : Int) ≤ 140737488355328 then
 (iter (fun go (g : (List (List UInt8)) × (List (List UInt8)) × Int) =>
 match g with
 | (a2, out, i) =>
 (bif (decide (i < (a2.length : Int))) then
 (Option.bind (idx a2 i) fun e =>
 (if 0 ≤ i ∧ i < (out.length : Int) then
 (Option.bind (out[i.toNat]?) fun e2 =>
 (if fits (i + 1) then (go (a2, (out.set i.toNat e), (i + 1))) else none))
 else none))
 else
 (some out))) N (a, (List.replicate (a.length : Int).toNat ([] : List UInt8)), 0))
 else none)
def l_toStringS_M (N : Nat) : Model := ⟨l_toStringS_arg, l_toStringS_ret, fun a => l_toStringS_m N a⟩
set_option maxRecDepth 1000000 in
theorem l_toStringS_ok (N : Nat) : ModelOk Tryz.prog 43 (l_toStringS_M N) :=
  modelOk_of (E := mkEnv [] [7] []) (mkEnv_ok fnsOk_nil _ _) Tryz.func43 (by kernel_rfl) rfl N l_toStringS_h (l_toStringS_M N) (by kernel_rfl) (by kernel_rfl) (fun a => by kernel_rfl)
/-! loop.example/fossick/laws.toSyn -/
def l_toSyn_arg : Sh := ⟨[.agg [.pv (.sl .str), .pv .str]], []⟩
def l_toSyn_ret : Sh := ⟨[.agg [.own 1 .str 9 true, .pv .str]], []⟩
def l_toSyn_h : Hint := .no
def l_toSyn_m (N : Nat) (a : List (List UInt8)) (a2 : List UInt8) : Option ((List (List UInt8)) × (List UInt8)) :=
 (Option.bind (l_toStringS_m N a) fun r =>
 (some (r, a2)))
def l_toSyn_M (N : Nat) : Model := ⟨l_toSyn_arg, l_toSyn_ret, fun a => l_toSyn_m N a.1 a.2⟩
set_option maxRecDepth 1000000 in
theorem l_toSyn_ok (N : Nat) : ModelOk Tryz.prog 77 (l_toSyn_M N) :=
  modelOk_of (E := mkEnv [(43, l_toStringS_M N)] [] [] [6]) (mkEnv_ok (fnsOk_cons (l_toStringS_ok N) fnsOk_nil) _ _ _) Tryz.func77 (by kernel_rfl) rfl N l_toSyn_h (l_toSyn_M N) (by kernel_rfl) (by kernel_rfl) (fun a => by kernel_rfl)
/-! loop.example/fossick/laws.toSynS -/
def l_toSynS_arg : Sh := ⟨[.pv (.sl (.pair (.sl .str) .str))], []⟩
def l_toSynS_ret : Sh := ⟨[.own 1 (.pair (.sl .str) .str) 98 true], []⟩
def l_toSynS_s1 : Sh := ⟨.pv Y11 :: .dead :: .dead :: .tre 600003 Y14 98 :: .pv (.int .i64) :: dz 18 [], []⟩
def l_toSynS_h : Hint := (.seq .no (.seq .no (.seq (.seq .no (.block (.loop l_toSynS_s1 .no))) .no)))
def l_toSynS_m (N : Nat) (a : List ((List (List UInt8)) × (List UInt8))) : Option ((List ((List (List UInt8)) × (List UInt8)))) :=
 (if (a.length : Int) = (a.length : Int) ∧ 0 ≤ (a.length : Int) ∧ (a.length : Int) * 40 ≤ 140737488355328 ∧ (a.length : Int) ≤ 140737488355328 then
 (iter (fun go (g : (List ((List (List UInt8)) × (List UInt8))) × (List ((List (List UInt8)) × (List UInt8))) × Int) =>
 match g with
 | (a2, out, i) =>
 (bif (decide (i < (a2.length : Int))) then
 (Option.bind (idx a2 i) fun e =>
 (Option.bind (l_toSyn_m N e.1 e.2) fun r =>
 (if 0 ≤ i ∧ i < (out.length : Int) then
 (Option.bind (out[i.toNat]?) fun e2 =>
 (if fits (i + 1) then (go (a2, (out.set i.toNat r), (i + 1))) else none))
 else none)))
 else
 (some out))) N (a, (List.replicate (a.length : Int).toNat (([] : List (List UInt8)), ([] : List UInt8))), 0))
 else none)
def l_toSynS_M (N : Nat) : Model := ⟨l_toSynS_arg, l_toSynS_ret, fun a => l_toSynS_m N a⟩
set_option maxRecDepth 1000000 in
theorem l_toSynS_ok (N : Nat) : ModelOk Tryz.prog 44 (l_toSynS_M N) :=
  modelOk_of (E := mkEnv [(77, l_toSyn_M N)] [7] [] [20]) (mkEnv_ok (fnsOk_cons (l_toSyn_ok N) fnsOk_nil) _ _ _) Tryz.func44 (by kernel_rfl) rfl N l_toSynS_h (l_toSynS_M N) (by kernel_rfl) (by kernel_rfl) (fun a => by kernel_rfl)
/-! loop.example/fossick/laws.toConf -/
def l_toConf_arg : Sh := ⟨[.agg [.pv (.sl .str), .pv (.sl (.pair (.sl .str) .str))]], []⟩
def l_toConf_ret : Sh := ⟨[.agg [.own 1 .str 9 true, .own 2 (.pair (.sl .str) .str) 98 true]], []⟩
def l_toConf_h : Hint := .no
def l_toConf_m (N : Nat) (a : List (List UInt8)) (a2 : List ((List (List UInt8)) × (List UInt8))) : Option ((List (List UInt8)) × (List ((List (List UInt8)) × (List UInt8)))) :=
 (Option.bind (l_toStringS_m N a) fun r =>
 (Option.bind (l_toSynS_m N a2) fun r2 =>
 (some (r, r2))))
def l_toConf_M (N : Nat) : Model := ⟨l_toConf_arg, l_toConf_ret, fun a => l_toConf_m N a.1 a.2⟩
set_option maxRecDepth 1000000 in
theorem l_toConf_ok (N : Nat) : ModelOk Tryz.prog 17 (l_toConf_M N) :=
  modelOk_of (E := mkEnv [(43, l_toStringS_M N), (44, l_toSynS_M N)] [] [] [6, 10]) (mkEnv_ok (fnsOk_cons (l_toStringS_ok N) (fnsOk_cons (l_toSynS_ok N) fnsOk_nil)) _ _ _) Tryz.func17 (by kernel_rfl) rfl N l_toConf_h (l_toConf_M N) (by kernel_rfl) (by kernel_rfl) (fun a => by kernel_rfl)
/-! loop.example/fossick/laws.toField -/
def l_toField_arg : Sh := ⟨[.agg [.pv .str, .pv .str]], []⟩
def l_toField_ret : Sh := ⟨[.agg [.pv .str, .pv .str]], []⟩
def l_toField_h : Hint := .no
def l_toField_m (N : Nat) (a : List UInt8) (a2 : List UInt8) : Option ((List UInt8) × (List UInt8)) :=
 (some (a, a2))
def l_toField_M (N : Nat) : Model := ⟨l_toField_arg, l_toField_ret, fun a => l_toField_m N a.1 a.2⟩
set_option maxRecDepth 1000000 in
theorem l_toField_ok (N : Nat) : ModelOk Tryz.prog 133 (l_toField_M N) :=
  modelOk_of (E := mkEnv [] [] []) (mkEnv_ok fnsOk_nil _ _) Tryz.func133 (by kernel_rfl) rfl N l_toField_h (l_toField_M N) (by kernel_rfl) (by kernel_rfl) (fun a => by kernel_rfl)
/-! loop.example/fossick/laws.toFieldS -/
def l_toFieldS_arg : Sh := ⟨[.pv (.sl (.pair .str .str))], []⟩
def l_toFieldS_ret : Sh := ⟨[.own 1 (.pair .str .str) 106 true], []⟩
def l_toFieldS_s1 : Sh := ⟨.pv Y13 :: .dead :: .dead :: .mtk 600003 Y15 106 true :: .pv (.int .i64) :: dz 18 [], []⟩
def l_toFieldS_h : Hint := (.seq .no (.seq .no (.seq (.seq .no (.block (.loop l_toFieldS_s1 .no))) .no)))
def l_toFieldS_m (N : Nat) (a : List ((List UInt8) × (List UInt8))) : Option ((List ((List UInt8) × (List UInt8)))) :=
 (if (a.length : Int) = (a.length : Int) ∧ 0 ≤ (a.length : Int) ∧ (a.length : Int) * 32 ≤ 140737488355328 ∧ (a.length : Int) ≤ 140737488355328 then
 (iter (fun go (g : (List ((List UInt8) × (List UInt8))) × (List ((List UInt8) × (List UInt8))) × Int) =>
 match g with
 | (a2, out, i) =>
 (bif (decide (i < (a2.length : Int))) then
 (Option.bind (idx a2 i) fun e =>
 (Option.bind (l_toField_m N e.1 e.2) fun r =>
 (if 0 ≤ i ∧ i < (out.length : Int) then
 (Option.bind (out[i.toNat]?) fun e2 =>
 (if fits (i + 1) then (go (a2, (out.set i.toNat r), (i + 1))) else none))
 else none)))
 else
 (some out))) N (a, (List.replicate (a.length : Int).toNat (([] : List UInt8), ([] : List UInt8))), 0))
 else none)
def l_toFieldS_M (N : Nat) : Model := ⟨l_toFieldS_arg, l_toFieldS_ret, fun a => l_toFieldS_m N a⟩
set_option maxRecDepth 1000000 in
theorem l_toFieldS_ok (N : Nat) : ModelOk Tryz.prog 107 (l_toFieldS_M N) :=
  modelOk_of (E := mkEnv [(133, l_toField_M N)] [7] [] [20]) (mkEnv_ok (fnsOk_cons (l_toField_ok N) fnsOk_nil) _ _ _) Tryz.func107 (by kernel_rfl) rfl N l_toFieldS_h (l_toFieldS_M N) (by kernel_rfl) (by kernel_rfl) (fun a => by kernel_rfl)
/-! loop.example/fossick/laws.toAttr -/
def l_toAttr_arg : Sh := ⟨[.agg [.pv .str, .pv (.int .i64)]], []⟩
def l_toAttr_ret : Sh := ⟨[.agg [.pv .str, .pv (.int .i64)]], []⟩
def l_toAttr_h : Hint := .no
def l_toAttr_m (N : Nat) (a : List UInt8) (a2 : Int) : Option ((List UInt8) × Int) :=
 (some (a, a2))
def l_toAttr_M (N : Nat) : Model := ⟨l_toAttr_arg, l_toAttr_ret, fun a => l_toAttr_m N a.1 a.2⟩
set_option maxRecDepth 1000000 in
theorem l_toAttr_ok (N : Nat) : ModelOk Tryz.prog 134 (l_toAttr_M N) :=
  modelOk_of (E := mkEnv [] [] []) (mkEnv_ok fnsOk_nil _ _) Tryz.func134 (by kernel_rfl) rfl N l_toAttr_h (l_toAttr_M N) (by kernel_rfl) (by kernel_rfl) (fun a => by kernel_rfl)
/-! loop.example/fossick/laws.toAttrS -/
def l_toAttrS_arg : Sh := ⟨[.pv (.sl (.pair .str (.int .i64)))], []⟩
def l_toAttrS_ret : Sh := ⟨[.own 1 (.pair .str (.int .i64)) 143 true], []⟩
def l_toAttrS_s1 : Sh := ⟨.pv Y10 :: .dead :: .dead :: .mtk 600003 Y12 143 true :: .pv (.int .i64) :: dz 18 [], []⟩
def l_toAttrS_h : Hint := (.seq .no (.seq .no (.seq (.seq .no (.block (.loop l_toAttrS_s1 .no))) .no)))
def l_toAttrS_m (N : Nat) (a : List ((List UInt8) × Int)) : Option ((List ((List UInt8) × Int))) :=
 (if (a.length : Int) = (a.length : Int) ∧ 0 ≤ (a.length : Int) ∧ (a.length : Int) * 24 ≤ 140737488355328 ∧ (a.length : Int) ≤ 140737488355328 then
 (iter (fun go (g : (List ((List UInt8) × Int)) × (List ((List UInt8) × Int)) × Int) =>
 match g with
 | (a2, out, i) =>
 (bif (decide (i < (a2.length : Int))) then
 (Option.bind (idx a2 i) fun e =>
 (Option.bind (l_toAttr_m N e.1 e.2) fun r =>
 (if 0 ≤ i ∧ i < (out.length : Int) then
 (Option.bind (out[i.toNat]?) fun e2 =>
 (if fits (i + 1) then (go (a2, (out.set i.toNat r), (i + 1))) else none))
 else none)))
 else
 (some out))) N (a, (List.replicate (a.length : Int).toNat (([] : List UInt8), 0)), 0))
 else none)
def l_toAttrS_M (N : Nat) : Model := ⟨l_toAttrS_arg, l_toAttrS_ret, fun a => l_toAttrS_m N a⟩
set_option maxRecDepth 1000000 in
theorem l_toAttrS_ok (N : Nat) : ModelOk Tryz.prog 108 (l_toAttrS_M N) :=
  modelOk_of (E := mkEnv [(134, l_toAttr_M N)] [7] [] [20]) (mkEnv_ok (fnsOk_cons (l_toAttr_ok N) fnsOk_nil) _ _ _) Tryz.func108 (by kernel_rfl) rfl N l_toAttrS_h (l_toAttrS_M N) (by kernel_rfl) (by kernel_rfl) (fun a => by kernel_rfl)
/-! loop.example/fossick/laws.toDoc -/
def l_toDoc_arg : Sh := ⟨[.agg [.pv (.int .i64), .pv (.sl (.pair .str .str)), .pv (.sl (.pair .str (.int .i64)))]], []⟩
def l_toDoc_ret : Sh := ⟨[.agg [.pv (.int .i64), .own 1 (.pair .str .str) 106 true, .own 2 (.pair .str (.int .i64)) 143 true]], []⟩
def l_toDoc_h : Hint := .no
def l_toDoc_m (N : Nat) (a : Int) (a2 : List ((List UInt8) × (List UInt8))) (a3 : List ((List UInt8) × Int)) : Option (Int × (List ((List UInt8) × (List UInt8))) × (List ((List UInt8) × Int))) :=
 (Option.bind (l_toFieldS_m N a2) fun r =>
 (Option.bind (l_toAttrS_m N a3) fun r2 =>
 (some (a, r, r2))))
def l_toDoc_M (N : Nat) : Model := ⟨l_toDoc_arg, l_toDoc_ret, fun a => l_toDoc_m N a.1 a.2.1 a.2.2⟩
set_option maxRecDepth 1000000 in
theorem l_toDoc_ok (N : Nat) : ModelOk Tryz.prog 78 (l_toDoc_M N) :=
  modelOk_of (E := mkEnv [(107, l_toFieldS_M N), (108, l_toAttrS_M N)] [] [] [9, 13]) (mkEnv_ok (fnsOk_cons (l_toFieldS_ok N) (fnsOk_cons (l_toAttrS_ok N) fnsOk_nil)) _ _ _) Tryz.func78 (by kernel_rfl) rfl N l_toDoc_h (l_toDoc_M N) (by kernel_rfl) (by kernel_rfl) (fun a => by kernel_rfl)
/-! loop.example/fossick/laws.toDocS -/
def l_toDocS_arg : Sh := ⟨[.pv (.sl (.pair (.int .i64) (.pair (.sl (.pair .str .str)) (.sl (.pair .str (.int .i64))))))], []⟩
def l_toDocS_ret : Sh := ⟨[.own 1 (.pair (.int .i64) (.pair (.sl (.pair .str .str)) (.sl (.pair .str (.int .i64))))) 102 true], []⟩
def l_toDocS_s1 : Sh := ⟨.pv Y0 :: .dead :: .dead :: .tre 600003 Y1 102 :: .pv (.int .i64) :: dz 18 [], []⟩
def l_toDocS_h : Hint := (.seq .no (.seq .no (.seq (.seq .no (.block (.loop l_toDocS_s1 .no))) .no)))
def l_toDocS_m (N : Nat) (a : List (Int × (List ((List UInt8) × (List UInt8))) × (List ((List UInt8) × Int)))) : Option ((List (Int × (List ((List UInt8) × (List UInt8))) × (List ((List UInt8) × Int))))) :=
 (if (a.length : Int) = (a.length : Int) ∧ 0 ≤ (a.length : Int) ∧ (a.length : Int) * 56 ≤ 140737488355328 ∧ (a.length : Int) ≤ 140737488355328 then
 (iter (fun go (g : (List (Int × (List ((List UInt8) × (List UInt8))) × (List ((List UInt8) × Int)))) × (List (Int × (List ((List UInt8) × (List UInt8))) × (List ((List UInt8) × Int)))) × Int) =>
 match g with
 | (a2, out, i) =>
 (bif (decide (i < (a2.length : Int))) then
 (Option.bind (idx a2 i) fun e =>
 (Option.bind (l_toDoc_m N e.1 e.2.1 e.2.2) fun r =>
 (if 0 ≤ i ∧ i < (out.length : Int) then
 (Option.bind (out[i.toNat]?) fun e2 =>
 (if fits (i + 1) then (go (a2, (out.set i.toNat r), (i + 1))) else none))
 else none)))
 else
 (some out))) N (a, (List.replicate (a.length : Int).toNat (0, ([] : List ((List UInt8) × (List UInt8))), ([] : List ((List UInt8) × Int)))), 0))
 else none)
def l_toDocS_M (N : Nat) : Model := ⟨l_toDocS_arg, l_toDocS_ret, fun a => l_toDocS_m N a⟩
set_option maxRecDepth 1000000 in
theorem l_toDocS_ok (N : Nat) : ModelOk Tryz.prog 45 (l_toDocS_M N) :=
  modelOk_of (E := mkEnv [(78, l_toDoc_M N)] [7] [] [20]) (mkEnv_ok (fnsOk_cons (l_toDoc_ok N) fnsOk_nil) _ _ _) Tryz.func45 (by kernel_rfl) rfl N l_toDocS_h (l_toDocS_M N) (by kernel_rfl) (by kernel_rfl) (fun a => by kernel_rfl)
/-! loop.example/fossick/laws.toIntS -/
def l_toIntS_arg : Sh := ⟨[.pv (.sl (.int .i64))], []⟩
def l_toIntS_ret : Sh := ⟨[.own 1 (.int .i64) 3 true], []⟩
def l_toIntS_s1 : Sh := ⟨.pv Y16 :: .dead :: .dead :: .mtk 600003 (.int .i64) 3 true :: .pv (.int .i64) :: dz 17 [], []⟩
def l_toIntS_h : Hint := (.seq .no (.seq .no (.seq (.seq .no (.block (.loop l_toIntS_s1 .no))) .no)))
def l_toIntS_m (N : Nat) (a : List Int) : Option ((List Int)) :=
 (if (a.length : Int) = (a.length : Int) ∧ 0 ≤ (a.length : Int) ∧ (a.length : Int) * 8 ≤ 140737488355328 ∧ (a.length : Int) ≤ 140737488355328 then
 (iter (fun go (g : (List Int) × (List Int) × Int) =>
 match g with
 | (a2, out, i) =>
 (bif (decide (i < (a2.length : Int))) then
 (Option.bind (idx a2 i) fun e =>
 (if 0 ≤ i ∧ i < (out.length : Int) then
 (Option.bind (out[i.toNat]?) fun e2 =>
 (if fits (i + 1) then (go (a2, (out.set i.toNat e), (i + 1))) else none))
 else none))
 else
 (some out))) N (a, (List.replicate (a.length : Int).toNat 0), 0))
 else none)
def l_toIntS_M (N : Nat) : Model := ⟨l_toIntS_arg, l_toIntS_ret, fun a => l_toIntS_m N a⟩
set_option maxRecDepth 1000000 in
theorem l_toIntS_ok (N : Nat) : ModelOk Tryz.prog 148 (l_toIntS_M N) :=
  modelOk_of (E := mkEnv [] [7] []) (mkEnv_ok fnsOk_nil _ _) Tryz.func148 (by kernel_rfl) rfl N l_toIntS_h (l_toIntS_M N) (by kernel_rfl) (by kernel_rfl) (fun a => by kernel_rfl)
/-! loop.example/fossick/laws.toPost -/
def l_toPost_arg : Sh := ⟨[.agg [.pv (.int .i64), .pv (.sl (.int .i64))]], []⟩
def l_toPost_ret : Sh := ⟨[.agg [.pv (.int .i64), .own 1 (.int .i64) 3 true]], []⟩
def l_toPost_h : Hint := .no
def l_toPost_m (N : Nat) (a : Int) (a2 : List Int) : Option (Int × (List Int)) :=
 (Option.bind (l_toIntS_m N a2) fun r =>
 (some (a, r)))
def l_toPost_M (N : Nat) : Model := ⟨l_toPost_arg, l_toPost_ret, fun a => l_toPost_m N a.1 a.2⟩
set_option maxRecDepth 1000000 in
theorem l_toPost_ok (N : Nat) : ModelOk Tryz.prog 135 (l_toPost_M N) :=
  modelOk_of (E := mkEnv [(148, l_toIntS_M N)] [] [] [9]) (mkEnv_ok (fnsOk_cons (l_toIntS_ok N) fnsOk_nil) _ _ _) Tryz.func135 (by kernel_rfl) rfl N l_toPost_h (l_toPost_M N) (by kernel_rfl) (by kernel_rfl) (fun a => by kernel_rfl)
/-! loop.example/fossick/laws.toPostS -/
def l_toPostS_arg : Sh := ⟨[.pv (.sl (.pair (.int .i64) (.sl (.int .i64))))], []⟩
def l_toPostS_ret : Sh := ⟨[.own 1 (.pair (.int .i64) (.sl (.int .i64))) 77 true], []⟩
def l_toPostS_s1 : Sh := ⟨.pv Y8 :: .dead :: .dead :: .tre 600003 Y9 77 :: .pv (.int .i64) :: dz 18 [], []⟩
def l_toPostS_h : Hint := (.seq .no (.seq .no (.seq (.seq .no (.block (.loop l_toPostS_s1 .no))) .no)))
def l_toPostS_m (N : Nat) (a : List (Int × (List Int))) : Option ((List (Int × (List Int)))) :=
 (if (a.length : Int) = (a.length : Int) ∧ 0 ≤ (a.length : Int) ∧ (a.length : Int) * 32 ≤ 140737488355328 ∧ (a.length : Int) ≤ 140737488355328 then
 (iter (fun go (g : (List (Int × (List Int))) × (List (Int × (List Int))) × Int) =>
 match g with
 | (a2, out, i) =>
 (bif (decide (i < (a2.length : Int))) then
 (Option.bind (idx a2 i) fun e =>
 (Option.bind (l_toPost_m N e.1 e.2) fun r =>
 (if 0 ≤ i ∧ i < (out.length : Int) then
 (Option.bind (out[i.toNat]?) fun e2 =>
 (if fits (i + 1) then (go (a2, (out.set i.toNat r), (i + 1))) else none))
 else none)))
 else
 (some out))) N (a, (List.replicate (a.length : Int).toNat (0, ([] : List Int))), 0))
 else none)
def l_toPostS_M (N : Nat) : Model := ⟨l_toPostS_arg, l_toPostS_ret, fun a => l_toPostS_m N a⟩
set_option maxRecDepth 1000000 in
theorem l_toPostS_ok (N : Nat) : ModelOk Tryz.prog 109 (l_toPostS_M N) :=
  modelOk_of (E := mkEnv [(135, l_toPost_M N)] [7] [] [20]) (mkEnv_ok (fnsOk_cons (l_toPost_ok N) fnsOk_nil) _ _ _) Tryz.func109 (by kernel_rfl) rfl N l_toPostS_h (l_toPostS_M N) (by kernel_rfl) (by kernel_rfl) (fun a => by kernel_rfl)
/-! loop.example/fossick/laws.toEntry -/
def l_toEntry_arg : Sh := ⟨[.agg [.pv .str, .pv .str, .pv (.sl (.pair (.int .i64) (.sl (.int .i64))))]], []⟩
def l_toEntry_ret : Sh := ⟨[.agg [.pv .str, .pv .str, .own 1 (.pair (.int .i64) (.sl (.int .i64))) 77 true]], []⟩
def l_toEntry_h : Hint := .no
def l_toEntry_m (N : Nat) (a : List UInt8) (a2 : List UInt8) (a3 : List (Int × (List Int))) : Option ((List UInt8) × (List UInt8) × (List (Int × (List Int)))) :=
 (Option.bind (l_toPostS_m N a3) fun r =>
 (some (a, a2, r)))
def l_toEntry_M (N : Nat) : Model := ⟨l_toEntry_arg, l_toEntry_ret, fun a => l_toEntry_m N a.1 a.2.1 a.2.2⟩
set_option maxRecDepth 1000000 in
theorem l_toEntry_ok (N : Nat) : ModelOk Tryz.prog 79 (l_toEntry_M N) :=
  modelOk_of (E := mkEnv [(109, l_toPostS_M N)] [] [] [12]) (mkEnv_ok (fnsOk_cons (l_toPostS_ok N) fnsOk_nil) _ _ _) Tryz.func79 (by kernel_rfl) rfl N l_toEntry_h (l_toEntry_M N) (by kernel_rfl) (by kernel_rfl) (fun a => by kernel_rfl)
/-! loop.example/fossick/laws.toEntryS -/
def l_toEntryS_arg : Sh := ⟨[.pv (.sl (.pair .str (.pair .str (.sl (.pair (.int .i64) (.sl (.int .i64)))))))], []⟩
def l_toEntryS_ret : Sh := ⟨[.own 1 (.pair .str (.pair .str (.sl (.pair (.int .i64) (.sl (.int .i64)))))) 66 true], []⟩
def l_toEntryS_s1 : Sh := ⟨.pv Y2 :: .dead :: .dead :: .tre 600003 Y3 66 :: .pv (.int .i64) :: dz 18 [], []⟩
def l_toEntryS_h : Hint := (.seq .no (.seq .no (.seq (.seq .no (.block (.loop l_toEntryS_s1 .no))) .no)))
def l_toEntryS_m (N : Nat) (a : List ((List UInt8) × (List UInt8) × (List (Int × (List Int))))) : Option ((List ((List UInt8) × (List UInt8) × (List (Int × (List Int)))))) :=
 (if (a.length : Int) = (a.length : Int) ∧ 0 ≤ (a.length : Int) ∧ (a.length : Int) * 56 ≤ 140737488355328 ∧ (a.length : Int) ≤ 140737488355328 then
 (iter (fun go (g : (List ((List UInt8) × (List UInt8) × (List (Int × (List Int))))) × (List ((List UInt8) × (List UInt8) × (List (Int × (List Int))))) × Int) =>
 match g with
 | (a2, out, i) =>
 (bif (decide (i < (a2.length : Int))) then
 (Option.bind (idx a2 i) fun e =>
 (Option.bind (l_toEntry_m N e.1 e.2.1 e.2.2) fun r =>
 (if 0 ≤ i ∧ i < (out.length : Int) then
 (Option.bind (out[i.toNat]?) fun e2 =>
 (if fits (i + 1) then (go (a2, (out.set i.toNat r), (i + 1))) else none))
 else none)))
 else
 (some out))) N (a, (List.replicate (a.length : Int).toNat (([] : List UInt8), ([] : List UInt8), ([] : List (Int × (List Int))))), 0))
 else none)
def l_toEntryS_M (N : Nat) : Model := ⟨l_toEntryS_arg, l_toEntryS_ret, fun a => l_toEntryS_m N a⟩
set_option maxRecDepth 1000000 in
theorem l_toEntryS_ok (N : Nat) : ModelOk Tryz.prog 46 (l_toEntryS_M N) :=
  modelOk_of (E := mkEnv [(79, l_toEntry_M N)] [7] [] [20]) (mkEnv_ok (fnsOk_cons (l_toEntry_ok N) fnsOk_nil) _ _ _) Tryz.func46 (by kernel_rfl) rfl N l_toEntryS_h (l_toEntryS_M N) (by kernel_rfl) (by kernel_rfl) (fun a => by kernel_rfl)
/-! loop.example/fossick/laws.toSeg -/
def l_toSeg_arg : Sh := ⟨[.agg [.pv (.sl (.pair (.int .i64) (.pair (.sl (.pair .str .str)) (.sl (.pair .str (.int .i64)))))), .pv (.sl (.pair .str (.pair .str (.sl (.pair (.int .i64) (.sl (.int .i64)))))))]], []⟩
def l_toSeg_ret : Sh := ⟨[.agg [.own 1 (.pair (.int .i64) (.pair (.sl (.pair .str .str)) (.sl (.pair .str (.int .i64))))) 102 true, .own 2 (.pair .str (.pair .str (.sl (.pair (.int .i64) (.sl (.int .i64)))))) 66 true]], []⟩
def l_toSeg_h : Hint := .no
def l_toSeg_m (N : Nat) (a : List (Int × (List ((List UInt8) × (List UInt8))) × (List ((List UInt8) × Int)))) (a2 : List ((List UInt8) × (List UInt8) × (List (Int × (List Int))))) : Option ((List (Int × (List ((List UInt8) × (List UInt8))) × (List ((List UInt8) × Int)))) × (List ((List UInt8) × (List UInt8) × (List (Int × (List Int)))))) :=
 (Option.bind (l_toDocS_m N a) fun r =>
 (Option.bind (l_toEntryS_m N a2) fun r2 =>
 (some (r, r2))))
def l_toSeg_M (N : Nat) : Model := ⟨l_toSeg_arg, l_toSeg_ret, fun a => l_toSeg_m N a.1 a.2⟩
set_option maxRecDepth 1000000 in
theorem l_toSeg_ok (N : Nat) : ModelOk Tryz.prog 18 (l_toSeg_M N) :=
  modelOk_of (E := mkEnv [(45, l_toDocS_M N), (46, l_toEntryS_M N)] [] [] [6, 10]) (mkEnv_ok (fnsOk_cons (l_toDocS_ok N) (fnsOk_cons (l_toEntryS_ok N) fnsOk_nil)) _ _ _) Tryz.func18 (by kernel_rfl) rfl N l_toSeg_h (l_toSeg_M N) (by kernel_rfl) (by kernel_rfl) (fun a => by kernel_rfl)
/-! loop.example/fossick/laws.eqStringS -/
def l_eqStringS_arg : Sh := ⟨[.pv (.sl .str), .pv (.sl .str)], []⟩
def l_eqStringS_ret : Sh := ⟨[.pv .bool], []⟩
def l_eqStringS_s1 : Sh := ⟨.pv (.sl .str) :: .pv (.sl .str) :: dz 3 (.pv (.int .i64) :: dz 20 []), []⟩
def l_eqStringS_h : Hint := (.seq .no (.seq .no (.seq (.seq .no (.block (.loop l_eqStringS_s1 .no))) .no)))
def l_eqStringS_m (N : Nat) (a : List (List UInt8)) (b : List (List UInt8)) : Option (Bool) :=
 (bif (!decide ((a.length : Int) = (b.length : Int))) then
 (some false)
 else
 (iter (fun go (g : (List (List UInt8)) × (List (List UInt8)) × Int) =>
 match g with
 | (a2, b2, i) =>
 (bif (decide (i < (a2.length : Int))) then
 (Option.bind (idx a2 i) fun e =>
 (Option.bind (idx b2 i) fun e2 =>
 (bif (!decide (e = e2)) then
 (some false)
 else
 (if fits (i + 1) then (go (a2, b2, (i + 1))) else none))))
 else
 (some true))) N (a, b, 0)))
def l_eqStringS_M (N : Nat) : Model := ⟨l_eqStringS_arg, l_eqStringS_ret, fun a => l_eqStringS_m N a.1 a.2⟩
set_option maxRecDepth 1000000 in
theorem l_eqStringS_ok (N : Nat) : ModelOk Tryz.prog 47 (l_eqStringS_M N) :=
  modelOk_of (E := mkEnv [] [] []) (mkEnv_ok fnsOk_nil _ _) Tryz.func47 (by kernel_rfl) rfl N l_eqStringS_h (l_eqStringS_M N) (by kernel_rfl) (by kernel_rfl) (fun a => by kernel_rfl)
/-! loop.example/fossick/laws.eqSyn -/
def l_eqSyn_arg : Sh := ⟨[.agg [.pv (.sl .str), .pv .str], .agg [.pv (.sl .str), .pv .str]], []⟩
def l_eqSyn_ret : Sh := ⟨[.pv .bool], []⟩
def l_eqSyn_h : Hint := .no
def l_eqSyn_m (N : Nat) (a : List (List UInt8)) (a2 : List UInt8) (b : List (List UInt8)) (b2 : List UInt8) : Option (Bool) :=
 (Option.bind (l_eqStringS_m N a b) fun r =>
 (bif (!r) then
 (some false)
 else
 (bif (!decide (a2 = b2)) then
 (some false)
 else
 (some true))))
def l_eqSyn_M (N : Nat) : Model := ⟨l_eqSyn_arg, l_eqSyn_ret, fun a => l_eqSyn_m N a.1 a.2.1 a.2.2.1 a.2.2.2⟩
set_option maxRecDepth 1000000 in
theorem l_eqSyn_ok (N : Nat) : ModelOk Tryz.prog 80 (l_eqSyn_M N) :=
  modelOk_of (E := mkEnv [(47, l_eqStringS_M N)] [] []) (mkEnv_ok (fnsOk_cons (l_eqStringS_ok N) fnsOk_nil) _ _) Tryz.func80 (by kernel_rfl) rfl N l_eqSyn_h (l_eqSyn_M N) (by kernel_rfl) (by kernel_rfl) (fun a => by kernel_rfl)
/-! loop.example/fossick/laws.eqSynS -/
def l_eqSynS_arg : Sh := ⟨[.pv (.sl (.pair (.sl .str) .str)), .pv (.sl (.pair (.sl .str) .str))], []⟩
def l_eqSynS_ret : Sh := ⟨[.pv .bool], []⟩
def l_eqSynS_s1 : Sh := ⟨.pv Y11 :: .pv Y11 :: dz 3 (.pv (.int .i64) :: dz 21 []), []⟩
def l_eqSynS_h : Hint := (.seq .no (.seq .no (.seq (.seq .no (.block (.loop l_eqSynS_s1 .no))) .no)))
def l_eqSynS_m (N : Nat) (a : List ((List (List UInt8)) × (List UInt8))) (b : List ((List (List UInt8)) × (List UInt8))) : Option (Bool) :=
 (bif (!decide ((a.length : Int) = (b.length : Int))) then
 (some false)
 else
 (iter (fun go (g : (List ((List (List UInt8)) × (List UInt8))) × (List ((List (List UInt8)) × (List UInt8))) × Int) =>
 match g with
 | (a2, b2, i) =>
 (bif (decide (i < (a2.length : Int))) then
 (Option.bind (idx a2 i) fun e =>
 (Option.bind (idx b2 i) fun e2 =>
 (Option.bind (l_eqSyn_m N e.1 e.2 e2.1 e2.2) fun r =>
 (bif (!r) then
 (some false)
 else
 (if fits (i + 1) then (go (a2, b2, (i + 1))) else none)))))
 else
 (some true))) N (a, b, 0)))
def l_eqSynS_M (N : Nat) : Model := ⟨l_eqSynS_arg, l_eqSynS_ret, fun a => l_eqSynS_m N a.1 a.2⟩
set_option maxRecDepth 1000000 in
theorem l_eqSynS_ok (N : Nat) : ModelOk Tryz.prog 48 (l_eqSynS_M N) :=
  modelOk_of (E := mkEnv [(80, l_eqSyn_M N)] [] []) (mkEnv_ok (fnsOk_cons (l_eqSyn_ok N) fnsOk_nil) _ _) Tryz.func48 (by kernel_rfl) rfl N l_eqSynS_h (l_eqSynS_M N) (by kernel_rfl) (by kernel_rfl) (fun a => by kernel_rfl)
/-! loop.example/fossick/laws.eqConf -/
def l_eqConf_arg : Sh := ⟨[.agg [.pv (.sl .str), .pv (.sl (.pair (.sl .str) .str))], .agg [.pv (.sl .str), .pv (.sl (.pair (.sl .str) .str))]], []⟩
def l_eqConf_ret : Sh := ⟨[.pv .bool], []⟩
def l_eqConf_h : Hint := .no
def l_eqConf_m (N : Nat) (a : List (List UInt8)) (a2 : List ((List (List UInt8)) × (List UInt8))) (b : List (List UInt8)) (b2 : List ((List (List UInt8)) × (List UInt8))) : Option (Bool) :=
 (Option.bind (l_eqStringS_m N a b) fun r =>
 (bif (!r) then
 (some false)
 else
 (Option.bind (l_eqSynS_m N a2 b2) fun r2 =>
 (bif (!r2) then
 (some false)
 else
 (some true)))))
def l_eqConf_M (N : Nat) : Model := ⟨l_eqConf_arg, l_eqConf_ret, fun a => l_eqConf_m N a.1 a.2.1 a.2.2.1 a.2.2.2⟩
set_option maxRecDepth 1000000 in
theorem l_eqConf_ok (N : Nat) : ModelOk Tryz.prog 19 (l_eqConf_M N) :=
  modelOk_of (E := mkEnv [(47, l_eqStringS_M N), (48, l_eqSynS_M N)] [] []) (mkEnv_ok (fnsOk_cons (l_eqStringS_ok N) (fnsOk_cons (l_eqSynS_ok N) fnsOk_nil)) _ _) Tryz.func19 (by kernel_rfl) rfl N l_eqConf_h (l_eqConf_M N) (by kernel_rfl) (by kernel_rfl) (fun a => by kernel_rfl)
/-! loop.example/fossick/laws.eqField -/
def l_eqField_arg : Sh := ⟨[.agg [.pv .str, .pv .str], .agg [.pv .str, .pv .str]], []⟩
def l_eqField_ret : Sh := ⟨[.pv .bool], []⟩
def l_eqField_h : Hint := .no
def l_eqField_m (N : Nat) (a : List UInt8) (a2 : List UInt8) (b : List UInt8) (b2 : List UInt8) : Option (Bool) :=
 (bif (!decide (a = b)) then
 (some false)
 else
 (bif (!decide (a2 = b2)) then
 (some false)
 else
 (some true)))
def l_eqField_M (N : Nat) : Model := ⟨l_eqField_arg, l_eqField_ret, fun a => l_eqField_m N a.1 a.2.1 a.2.2.1 a.2.2.2⟩
set_option maxRecDepth 1000000 in
theorem l_eqField_ok (N : Nat) : ModelOk Tryz.prog 136 (l_eqField_M N) :=
  modelOk_of (E := mkEnv [] [] []) (mkEnv_ok fnsOk_nil _ _) Tryz.func136 (by kernel_rfl) rfl N l_eqField_h (l_eqField_M N) (by kernel_rfl) (by kernel_rfl) (fun a => by kernel_rfl)
/-! loop.example/fossick/laws.eqFieldS -/
def l_eqFieldS_arg : Sh := ⟨[.pv (.sl (.pair .str .str)), .pv (.sl (.pair .str .str))], []⟩
def l_eqFieldS_ret : Sh := ⟨[.pv .bool], []⟩
def l_eqFieldS_s1 : Sh := ⟨.pv Y13 :: .pv Y13 :: dz 3 (.pv (.int .i64) :: dz 21 []), []⟩
def l_eqFieldS_h : Hint := (.seq .no (.seq .no (.seq (.seq .no (.block (.loop l_eqFieldS_s1 .no))) .no)))
def l_eqFieldS_m (N : Nat) (a : List ((List UInt8) × (List UInt8))) (b : List ((List UInt8) × (List UInt8))) : Option (Bool) :=
 (bif (!decide ((a.length : Int) = (b.length : Int))) then
 (some false)
 else
 (iter (fun go (g : (List ((List UInt8) × (List UInt8))) × (List ((List UInt8) × (List UInt8))) × Int) =>
 match g with
 | (a2, b2, i) =>
 (bif (decide (i < (a2.length : Int))) then
 (Option.bind (idx a2 i) fun e =>
 (Option.bind (idx b2 i) fun e2 =>
 (Option.bind (l_eqField_m N e.1 e.2 e2.1 e2.2) fun r =>
 (bif (!r) then
 (some false)
 else
 (if fits (i + 1) then (go (a2, b2, (i + 1))) else none)))))
 else
 (some true))) N (a, b, 0)))
def l_eqFieldS_M (N : Nat) : Model := ⟨l_eqFieldS_arg, l_eqFieldS_ret, fun a => l_eqFieldS_m N a.1 a.2⟩
set_option maxRecDepth 1000000 in
theorem l_eqFieldS_ok (N : Nat) : ModelOk Tryz.prog 110 (l_eqFieldS_M N) :=
  modelOk_of (E := mkEnv [(136, l_eqField_M N)] [] []) (mkEnv_ok (fnsOk_cons (l_eqField_ok N) fnsOk_nil) _ _) Tryz.func110 (by kernel_rfl) rfl N l_eqFieldS_h (l_eqFieldS_M N) (by kernel_rfl) (by kernel_rfl) (fun a => by kernel_rfl)
/-! loop.example/fossick/laws.eqAttr -/
def l_eqAttr_arg : Sh := ⟨[.agg [.pv .str, .pv (.int .i64)], .agg [.pv .str, .pv (.int .i64)]], []⟩
def l_eqAttr_ret : Sh := ⟨[.pv .bool], []⟩
def l_eqAttr_h : Hint := .no
def l_eqAttr_m (N : Nat) (a : List UInt8) (a2 : Int) (b : List UInt8) (b2 : Int) : Option (Bool) :=
 (bif (!decide (a = b)) then
 (some false)
 else
 (bif (!decide (a2 = b2)) then
 (some false)
 else
 (some true)))
def l_eqAttr_M (N : Nat) : Model := ⟨l_eqAttr_arg, l_eqAttr_ret, fun a => l_eqAttr_m N a.1 a.2.1 a.2.2.1 a.2.2.2⟩
set_option maxRecDepth 1000000 in
theorem l_eqAttr_ok (N : Nat) : ModelOk Tryz.prog 137 (l_eqAttr_M N) :=
  modelOk_of (E := mkEnv [] [] []) (mkEnv_ok fnsOk_nil _ _) Tryz.func137 (by kernel_rfl) rfl N l_eqAttr_h (l_eqAttr_M N) (by kernel_rfl) (by kernel_rfl) (fun a => by kernel_rfl)
/-! loop.example/fossick/laws.eqAttrS -/
def l_eqAttrS_arg : Sh := ⟨[.pv (.sl (.pair .str (.int .i64))), .pv (.sl (.pair .str (.int .i64)))], []⟩
def l_eqAttrS_ret : Sh := ⟨[.pv .bool], []⟩
def l_eqAttrS_s1 : Sh := ⟨.pv Y10 :: .pv Y10 :: dz 3 (.pv (.int .i64) :: dz 21 []), []⟩
def l_eqAttrS_h : Hint := (.seq .no (.seq .no (.seq (.seq .no (.block (.loop l_eqAttrS_s1 .no))) .no)))
def l_eqAttrS_m (N : Nat) (a : List ((List UInt8) × Int)) (b : List ((List UInt8) × Int)) : Option (Bool) :=
 (bif (!decide ((a.length : Int) = (b.length : Int))) then
 (some false)
 else
 (iter (fun go (g : (List ((List UInt8) × Int)) × (List ((List UInt8) × Int)) × Int) =>
 match g with
 | (a2, b2, i) =>
 (bif (decide (i < (a2.length : Int))) then
 (Option.bind (idx a2 i) fun e =>
 (Option.bind (idx b2 i) fun e2 =>
 (Option.bind (l_eqAttr_m N e.1 e.2 e2.1 e2.2) fun r =>
 (bif (!r) then
 (some false)
 else
 (if fits (i + 1) then (go (a2, b2, (i + 1))) else none)))))
 else
 (some true))) N (a, b, 0)))
def l_eqAttrS_M (N : Nat) : Model := ⟨l_eqAttrS_arg, l_eqAttrS_ret, fun a => l_eqAttrS_m N a.1 a.2⟩
set_option maxRecDepth 1000000 in
theorem l_eqAttrS_ok (N : Nat) : ModelOk Tryz.prog 111 (l_eqAttrS_M N) :=
  modelOk_of (E := mkEnv [(137, l_eqAttr_M N)] [] []) (mkEnv_ok (fnsOk_cons (l_eqAttr_ok N) fnsOk_nil) _ _) Tryz.func111 (by kernel_rfl) rfl N l_eqAttrS_h (l_eqAttrS_M N) (by kernel_rfl) (by kernel_rfl) (fun a => by kernel_rfl)
/-! loop.example/fossick/laws.eqDoc -/
def l_eqDoc_arg : Sh := ⟨[.agg [.pv (.int .i64), .pv (.sl (.pair .str .str)), .pv (.sl (.pair .str (.int .i64)))], .agg [.pv (.int .i64), .pv (.sl (.pair .str .str)), .pv (.sl (.pair .str (.int .i64)))]], []⟩
def l_eqDoc_ret : Sh := ⟨[.pv .bool], []⟩
def l_eqDoc_h : Hint := .no
def l_eqDoc_m (N : Nat) (a : Int) (a2 : List ((List UInt8) × (List UInt8))) (a3 : List ((List UInt8) × Int)) (b : Int) (b2 : List ((List UInt8) × (List UInt8))) (b3 : List ((List UInt8) × Int)) : Option (Bool) :=
 (bif (!decide (a = b)) then
 (some false)
 else
 (Option.bind (l_eqFieldS_m N a2 b2) fun r =>
 (bif (!r) then
 (some false)
 else
 (Option.bind (l_eqAttrS_m N a3 b3) fun r2 =>
 (bif (!r2) then
 (some false)
 else
 (some true))))))
def l_eqDoc_M (N : Nat) : Model := ⟨l_eqDoc_arg, l_eqDoc_ret, fun a => l_eqDoc_m N a.1 a.2.1 a.2.2.1 a.2.2.2.1 a.2.2.2.2.1 a.2.2.2.2.2⟩
set_option maxRecDepth 1000000 in
theorem l_eqDoc_ok (N : Nat) : ModelOk Tryz.prog 81 (l_eqDoc_M N) :=
  modelOk_of (E := mkEnv [(110, l_eqFieldS_M N), (111, l_eqAttrS_M N)] [] []) (mkEnv_ok (fnsOk_cons (l_eqFieldS_ok N) (fnsOk_cons (l_eqAttrS_ok N) fnsOk_nil)) _ _) Tryz.func81 (by kernel_rfl) rfl N l_eqDoc_h (l_eqDoc_M N) (by kernel_rfl) (by kernel_rfl) (fun a => by kernel_rfl)
/-! loop.example/fossick/laws.eqDocS -/
def l_eqDocS_arg : Sh := ⟨[.pv (.sl (.pair (.int .i64) (.pair (.sl (.pair .str .str)) (.sl (.pair .str (.int .i64)))))), .pv (.sl (.pair (.int .i64) (.pair (.sl (.pair .str .str)) (.sl (.pair .str (.int .i64))))))], []⟩
def l_eqDocS_ret : Sh := ⟨[.pv .bool], []⟩
def l_eqDocS_s1 : Sh := ⟨.pv Y0 :: .pv Y0 :: dz 3 (.pv (.int .i64) :: dz 21 []), []⟩
def l_eqDocS_h : Hint := (.seq .no (.seq .no (.seq (.seq .no (.block (.loop l_eqDocS_s1 .no))) .no)))
def l_eqDocS_m (N : Nat) (a : List (Int × (List ((List UInt8) × (List UInt8))) × (List ((List UInt8) × Int)))) (b : List (Int × (List ((List UInt8) × (List UInt8))) × (List ((List UInt8) × Int)))) : Option (Bool) :=
 (bif (!decide ((a.length : Int) = (b.length : Int))) then
 (some false)
 else
 (iter (fun go (g : (List (Int × (List ((List UInt8) × (List UInt8))) × (List ((List UInt8) × Int)))) × (List (Int × (List ((List UInt8) × (List UInt8))) × (List ((List UInt8) × Int)))) × Int) =>
 match g with
 | (a2, b2, i) =>
 (bif (decide (i < (a2.length : Int))) then
 (Option.bind (idx a2 i) fun e =>
 (Option.bind (idx b2 i) fun e2 =>
 (Option.bind (l_eqDoc_m N e.1 e.2.1 e.2.2 e2.1 e2.2.1 e2.2.2) fun r =>
 (bif (!r) then
 (some false)
 else
 (if fits (i + 1) then (go (a2, b2, (i + 1))) else none)))))
 else
 (some true))) N (a, b, 0)))
def l_eqDocS_M (N : Nat) : Model := ⟨l_eqDocS_arg, l_eqDocS_ret, fun a => l_eqDocS_m N a.1 a.2⟩
set_option maxRecDepth 1000000 in
theorem l_eqDocS_ok (N : Nat) : ModelOk Tryz.prog 49 (l_eqDocS_M N) :=
  modelOk_of (E := mkEnv [(81, l_eqDoc_M N)] [] []) (mkEnv_ok (fnsOk_cons (l_eqDoc_ok N) fnsOk_nil) _ _) Tryz.func49 (by kernel_rfl) rfl N l_eqDocS_h (l_eqDocS_M N) (by kernel_rfl) (by kernel_rfl) (fun a => by kernel_rfl)
/-! loop.example/fossick/laws.eqIntS -/
def l_eqIntS_arg : Sh := ⟨[.pv (.sl (.int .i64)), .pv (.sl (.int .i64))], []⟩
def l_eqIntS_ret : Sh := ⟨[.pv .bool], []⟩
def l_eqIntS_s1 : Sh := ⟨.pv Y16 :: .pv Y16 :: dz 3 (.pv (.int .i64) :: dz 20 []), []⟩
def l_eqIntS_h : Hint := (.seq .no (.seq .no (.seq (.seq .no (.block (.loop l_eqIntS_s1 .no))) .no)))
def l_eqIntS_m (N : Nat) (a : List Int) (b : List Int) : Option (Bool) :=
 (bif (!decide ((a.length : Int) = (b.length : Int))) then
 (some false)
 else
 (iter (fun go (g : (List Int) × (List Int) × Int) =>
 match g with
 | (a2, b2, i) =>
 (bif (decide (i < (a2.length : Int))) then
 (Option.bind (idx a2 i) fun e =>
 (Option.bind (idx b2 i) fun e2 =>
 (bif (!decide (e = e2)) then
 (some false)
 else
 (if fits (i + 1) then (go (a2, b2, (i + 1))) else none))))
 else
 (some true))) N (a, b, 0)))
def l_eqIntS_M (N : Nat) : Model := ⟨l_eqIntS_arg, l_eqIntS_ret, fun a => l_eqIntS_m N a.1 a.2⟩
set_option maxRecDepth 1000000 in
theorem l_eqIntS_ok (N : Nat) : ModelOk Tryz.prog 149 (l_eqIntS_M N) :=
  modelOk_of (E := mkEnv [] [] []) (mkEnv_ok fnsOk_nil _ _) Tryz.func149 (by kernel_rfl) rfl N l_eqIntS_h (l_eqIntS_M N) (by kernel_rfl) (by kernel_rfl) (fun a => by kernel_rfl)
/-! loop.example/fossick/laws.eqPost -/
def l_eqPost_arg : Sh := ⟨[.agg [.pv (.int .i64), .pv (.sl (.int .i64))], .agg [.pv (.int .i64), .pv (.sl (.int .i64))]], []⟩
def l_eqPost_ret : Sh := ⟨[.pv .bool], []⟩
def l_eqPost_h : Hint := .no
def l_eqPost_m (N : Nat) (a : Int) (a2 : List Int) (b : Int) (b2 : List Int) : Option (Bool) :=
 (bif (!decide (a = b)) then
 (some false)
 else
 (Option.bind (l_eqIntS_m N a2 b2) fun r =>
 (bif (!r) then
 (some false)
 else
 (some true))))
def l_eqPost_M (N : Nat) : Model := ⟨l_eqPost_arg, l_eqPost_ret, fun a => l_eqPost_m N a.1 a.2.1 a.2.2.1 a.2.2.2⟩
set_option maxRecDepth 1000000 in
theorem l_eqPost_ok (N : Nat) : ModelOk Tryz.prog 138 (l_eqPost_M N) :=
  modelOk_of (E := mkEnv [(149, l_eqIntS_M N)] [] []) (mkEnv_ok (fnsOk_cons (l_eqIntS_ok N) fnsOk_nil) _ _) Tryz.func138 (by kernel_rfl) rfl N l_eqPost_h (l_eqPost_M N) (by kernel_rfl) (by kernel_rfl) (fun a => by kernel_rfl)
/-! loop.example/fossick/laws.eqPostS -/
def l_eqPostS_arg : Sh := ⟨[.pv (.sl (.pair (.int .i64) (.sl (.int .i64)))), .pv (.sl (.pair (.int .i64) (.sl (.int .i64))))], []⟩
def l_eqPostS_ret : Sh := ⟨[.pv .bool], []⟩
def l_eqPostS_s1 : Sh := ⟨.pv Y8 :: .pv Y8 :: dz 3 (.pv (.int .i64) :: dz 21 []), []⟩
def l_eqPostS_h : Hint := (.seq .no (.seq .no (.seq (.seq .no (.block (.loop l_eqPostS_s1 .no))) .no)))
def l_eqPostS_m (N : Nat) (a : List (Int × (List Int))) (b : List (Int × (List Int))) : Option (Bool) :=
 (bif (!decide ((a.length : Int) = (b.length : Int))) then
 (some false)
 else
 (iter (fun go (g : (List (Int × (List Int))) × (List (Int × (List Int))) × Int) =>
 match g with
 | (a2, b2, i) =>
 (bif (decide (i < (a2.length : Int))) then
 (Option.bind (idx a2 i) fun e =>
 (Option.bind (idx b2 i) fun e2 =>
 (Option.bind (l_eqPost_m N e.1 e.2 e2.1 e2.2) fun r =>
 (bif (!r) then
 (some false)
 else
 (if fits (i + 1) then (go (a2, b2, (i + 1))) else none)))))
 else
 (some true))) N (a, b, 0)))
def l_eqPostS_M (N : Nat) : Model := ⟨l_eqPostS_arg, l_eqPostS_ret, fun a => l_eqPostS_m N a.1 a.2⟩
set_option maxRecDepth 1000000 in
theorem l_eqPostS_ok (N : Nat) : ModelOk Tryz.prog 112 (l_eqPostS_M N) :=
  modelOk_of (E := mkEnv [(138, l_eqPost_M N)] [] []) (mkEnv_ok (fnsOk_cons (l_eqPost_ok N) fnsOk_nil) _ _) Tryz.func112 (by kernel_rfl) rfl N l_eqPostS_h (l_eqPostS_M N) (by kernel_rfl) (by kernel_rfl) (fun a => by kernel_rfl)
/-! loop.example/fossick/laws.eqEntry -/
def l_eqEntry_arg : Sh := ⟨[.agg [.pv .str, .pv .str, .pv (.sl (.pair (.int .i64) (.sl (.int .i64))))], .agg [.pv .str, .pv .str, .pv (.sl (.pair (.int .i64) (.sl (.int .i64))))]], []⟩
def l_eqEntry_ret : Sh := ⟨[.pv .bool], []⟩
def l_eqEntry_h : Hint := .no
def l_eqEntry_m (N : Nat) (a : List UInt8) (a2 : List UInt8) (a3 : List (Int × (List Int))) (b : List UInt8) (b2 : List UInt8) (b3 : List (Int × (List Int))) : Option (Bool) :=
 (bif (!decide (a = b)) then
 (some false)
 else
 (bif (!decide (a2 = b2)) then
 (some false)
 else
 (Option.bind (l_eqPostS_m N a3 b3) fun r =>
 (bif (!r) then
 (some false)
 else
 (some true)))))
def l_eqEntry_M (N : Nat) : Model := ⟨l_eqEntry_arg, l_eqEntry_ret, fun a => l_eqEntry_m N a.1 a.2.1 a.2.2.1 a.2.2.2.1 a.2.2.2.2.1 a.2.2.2.2.2⟩
set_option maxRecDepth 1000000 in
theorem l_eqEntry_ok (N : Nat) : ModelOk Tryz.prog 82 (l_eqEntry_M N) :=
  modelOk_of (E := mkEnv [(112, l_eqPostS_M N)] [] []) (mkEnv_ok (fnsOk_cons (l_eqPostS_ok N) fnsOk_nil) _ _) Tryz.func82 (by kernel_rfl) rfl N l_eqEntry_h (l_eqEntry_M N) (by kernel_rfl) (by kernel_rfl) (fun a => by kernel_rfl)
/-! loop.example/fossick/laws.eqEntryS -/
def l_eqEntryS_arg : Sh := ⟨[.pv (.sl (.pair .str (.pair .str (.sl (.pair (.int .i64) (.sl (.int .i64))))))), .pv (.sl (.pair .str (.pair .str (.sl (.pair (.int .i64) (.sl (.int .i64)))))))], []⟩
def l_eqEntryS_ret : Sh := ⟨[.pv .bool], []⟩
def l_eqEntryS_s1 : Sh := ⟨.pv Y2 :: .pv Y2 :: dz 3 (.pv (.int .i64) :: dz 21 []), []⟩
def l_eqEntryS_h : Hint := (.seq .no (.seq .no (.seq (.seq .no (.block (.loop l_eqEntryS_s1 .no))) .no)))
def l_eqEntryS_m (N : Nat) (a : List ((List UInt8) × (List UInt8) × (List (Int × (List Int))))) (b : List ((List UInt8) × (List UInt8) × (List (Int × (List Int))))) : Option (Bool) :=
 (bif (!decide ((a.length : Int) = (b.length : Int))) then
 (some false)
 else
 (iter (fun go (g : (List ((List UInt8) × (List UInt8) × (List (Int × (List Int))))) × (List ((List UInt8) × (List UInt8) × (List (Int × (List Int))))) × Int) =>
 match g with
 | (a2, b2, i) =>
 (bif (decide (i < (a2.length : Int))) then
 (Option.bind (idx a2 i) fun e =>
 (Option.bind (idx b2 i) fun e2 =>
 (Option.bind (l_eqEntry_m N e.1 e.2.1 e.2.2 e2.1 e2.2.1 e2.2.2) fun r =>
 (bif (!r) then
 (some false)
 else
 (if fits (i + 1) then (go (a2, b2, (i + 1))) else none)))))
 else
 (some true))) N (a, b, 0)))
def l_eqEntryS_M (N : Nat) : Model := ⟨l_eqEntryS_arg, l_eqEntryS_ret, fun a => l_eqEntryS_m N a.1 a.2⟩
set_option maxRecDepth 1000000 in
theorem l_eqEntryS_ok (N : Nat) : ModelOk Tryz.prog 50 (l_eqEntryS_M N) :=
  modelOk_of (E := mkEnv [(82, l_eqEntry_M N)] [] []) (mkEnv_ok (fnsOk_cons (l_eqEntry_ok N) fnsOk_nil) _ _) Tryz.func50 (by kernel_rfl) rfl N l_eqEntryS_h (l_eqEntryS_M N) (by kernel_rfl) (by kernel_rfl) (fun a => by kernel_rfl)
/-! loop.example/fossick/laws.eqSeg -/
def l_eqSeg_arg : Sh := ⟨[.agg [.pv (.sl (.pair (.int .i64) (.pair (.sl (.pair .str .str)) (.sl (.pair .str (.int .i64)))))), .pv (.sl (.pair .str (.pair .str (.sl (.pair (.int .i64) (.sl (.int .i64)))))))], .agg [.pv (.sl (.pair (.int .i64) (.pair (.sl (.pair .str .str)) (.sl (.pair .str (.int .i64)))))), .pv (.sl (.pair .str (.pair .str (.sl (.pair (.int .i64) (.sl (.int .i64)))))))]], []⟩
def l_eqSeg_ret : Sh := ⟨[.pv .bool], []⟩
def l_eqSeg_h : Hint := .no
def l_eqSeg_m (N : Nat) (a : List (Int × (List ((List UInt8) × (List UInt8))) × (List ((List UInt8) × Int)))) (a2 : List ((List UInt8) × (List UInt8) × (List (Int × (List Int))))) (b : List (Int × (List ((List UInt8) × (List UInt8))) × (List ((List UInt8) × Int)))) (b2 : List ((List UInt8) × (List UInt8) × (List (Int × (List Int))))) : Option (Bool) :=
 (Option.bind (l_eqDocS_m N a b) fun r =>
 (bif (!r) then
 (some false)
 else
 (Option.bind (l_eqEntryS_m N a2 b2) fun r2 =>
 (bif (!r2) then
 (some false)
 else
 (some true)))))
def l_eqSeg_M (N : Nat) : Model := ⟨l_eqSeg_arg, l_eqSeg_ret, fun a => l_eqSeg_m N a.1 a.2.1 a.2.2.1 a.2.2.2⟩
set_option maxRecDepth 1000000 in
theorem l_eqSeg_ok (N : Nat) : ModelOk Tryz.prog 20 (l_eqSeg_M N) :=
  modelOk_of (E := mkEnv [(49, l_eqDocS_M N), (50, l_eqEntryS_M N)] [] []) (mkEnv_ok (fnsOk_cons (l_eqDocS_ok N) (fnsOk_cons (l_eqEntryS_ok N) fnsOk_nil)) _ _) Tryz.func20 (by kernel_rfl) rfl N l_eqSeg_h (l_eqSeg_M N) (by kernel_rfl) (by kernel_rfl) (fun a => by kernel_rfl)
/-! loop.example/fossick/laws.FnExactSpellOf -/
def l_FnExactSpellOf_arg : Sh := ⟨[.agg [.pv (.sl .str), .pv (.sl (.pair (.sl .str) .str))], .agg [.pv (.sl (.pair (.int .i64) (.pair (.sl (.pair .str .str)) (.sl (.pair .str (.int .i64)))))), .pv (.sl (.pair .str (.pair .str (.sl (.pair (.int .i64) (.sl (.int .i64)))))))], .pv .str, .pv .str], []⟩
def l_FnExactSpellOf_ret : Sh := ⟨[.pv .bool], []⟩
def l_FnExactSpellOf_h : Hint := .no
def l_FnExactSpellOf_m (N : Nat) (aC : List (List UInt8)) (aC2 : List ((List (List UInt8)) × (List UInt8))) (aS : List (Int × (List ((List UInt8) × (List UInt8))) × (List ((List UInt8) × Int)))) (aS2 : List ((List UInt8) × (List UInt8) × (List (Int × (List Int))))) (aField : List UInt8) (aWord : List UInt8) : Option (Bool) :=
 (bif (decide ((1048576 : Int) < (aField.length : Int))) then
 (some true)
 else
 (bif (decide ((1048576 : Int) < (aWord.length : Int))) then
 (some true)
 else
 (Option.bind (l_szConf_m N aC aC2 1048576) fun r =>
 (bif (decide (r < 0)) then
 (some true)
 else
 (Option.bind (l_szSeg_m N aS aS2 r) fun r2 =>
 (bif (decide (r2 < 0)) then
 (some true)
 else
 (Option.bind (l_toConf_m N aC aC2) fun r3 =>
 (Option.bind (l_toSeg_m N aS aS2) fun r4 =>
 (Option.bind (s_SpellOf_m N r3.1 r3.2 r4.1 r4.2 aField aWord) fun r5 =>
 (Option.bind (l_toConf_m N aC aC2) fun r6 =>
 (Option.bind (l_toSeg_m N aS aS2) fun r7 =>
 (Option.bind (i_SpellOf_m N r6.1 r6.2 r7.1 r7.2 aField aWord) fun r8 =>
 (bif (!decide (r8 = r5)) then
 (some false)
 else
 (Option.bind (l_toConf_m N aC aC2) fun r9 =>
 (Option.bind (l_eqConf_m N r6.1 r6.2 r9.1 r9.2) fun r10 =>
 (bif (!r10) then
 (some false)
 else
 (Option.bind (l_toSeg_m N aS aS2) fun r11 =>
 (Option.bind (l_eqSeg_m N r7.1 r7.2 r11.1 r11.2) fun r12 =>
 (bif (!r12) then
 (some false)
 else
 (some true))))))))))))))))))))
def l_FnExactSpellOf_M (N : Nat) : Model := ⟨l_FnExactSpellOf_arg, l_FnExactSpellOf_ret, fun a => l_FnExactSpellOf_m N a.1 a.2.1 a.2.2.1 a.2.2.2.1 a.2.2.2.2.1 a.2.2.2.2.2⟩
set_option maxRecDepth 1000000 in
theorem l_FnExactSpellOf_ok (N : Nat) : ModelOk Tryz.prog 4 (l_FnExactSpellOf_M N) :=
  modelOk_of (E := mkEnv [(15, l_szConf_M N), (16, l_szSeg_M N), (17, l_toConf_M N), (18, l_toSeg_M N), (7, s_SpellOf_M N), (6, i_SpellOf_M N), (19, l_eqConf_M N), (20, l_eqSeg_M N)] [] [] [31, 33, 38, 40, 45, 51, 52, 56, 57]) (mkEnv_ok (fnsOk_cons (l_szConf_ok N) (fnsOk_cons (l_szSeg_ok N) (fnsOk_cons (l_toConf_ok N) (fnsOk_cons (l_toSeg_ok N) (fnsOk_cons (s_SpellOf_ok N) (fnsOk_cons (i_SpellOf_ok N) (fnsOk_cons (l_eqConf_ok N) (fnsOk_cons (l_eqSeg_ok N) fnsOk_nil)))))))) _ _ _) Tryz.func4 (by kernel_rfl) rfl N l_FnExactSpellOf_h (l_FnExactSpellOf_M N) (by kernel_rfl) (by kernel_rfl) (fun a => by kernel_rfl)
end Go.Proofs.YtcjbjmbialienaaGreat
