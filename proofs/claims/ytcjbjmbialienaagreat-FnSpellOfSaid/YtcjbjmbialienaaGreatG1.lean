import Derived.Test.YtcjbjmbialienaaGreatG1A
set_option linter.unusedVariables false
set_option linter.unusedSimpArgs false
namespace Go.Proofs.YtcjbjmbialienaaGreat
open Go.RowKit
def k_slices_partitionCmpFunc_912_arg : Sh := ⟨[.mtk 800000 (.pair .str (.pair .str (.sl (.pair (.int .i64) (.sl (.int .i64)))))) 66 false, .pv (.int .i64), .pv (.int .i64), .pv (.int .i64), .clo 68 []], []⟩
def k_slices_partitionCmpFunc_912_ret : Sh := ⟨[.tup [.pv (.int .i64), .pv .bool], .mtk 800000 (.pair .str (.pair .str (.sl (.pair (.int .i64) (.sl (.int .i64)))))) 66 false], []⟩
def k_slices_partitionCmpFunc_912_s1 : Sh := ⟨.mtk 800000 Y3 66 false :: .pv (.int .i64) :: .dead :: .dead :: .clo 68 [] :: dz 7 (.pv (.int .i64) :: .pv (.int .i64) :: dz 164 []), []⟩
def k_slices_partitionCmpFunc_912_s2 : Sh := ⟨.mtk 800000 Y3 66 false :: .pv (.int .i64) :: .dead :: .dead :: .clo 68 [] :: dz 7 (.pv (.int .i64) :: .pv (.int .i64) :: dz 164 []), []⟩
def k_slices_partitionCmpFunc_912_s3 : Sh := ⟨.mtk 800000 Y3 66 false :: .pv (.int .i64) :: .dead :: .dead :: .clo 68 [] :: dz 7 (.pv (.int .i64) :: .pv (.int .i64) :: dz 164 []), []⟩
def k_slices_partitionCmpFunc_912_s4 : Sh := ⟨.mtk 800000 Y3 66 false :: .pv (.int .i64) :: .dead :: .dead :: .clo 68 [] :: dz 7 (.pv (.int .i64) :: .pv (.int .i64) :: dz 164 []), []⟩
def k_slices_partitionCmpFunc_912_s5 : Sh := ⟨.mtk 800000 Y3 66 false :: .pv (.int .i64) :: .dead :: .dead :: .clo 68 [] :: dz 7 (.pv (.int .i64) :: .pv (.int .i64) :: dz 164 []), []⟩
def k_slices_partitionCmpFunc_912_h : Hint := (.seq .no (.seq .no (.seq .no (.seq (.block (.loop k_slices_partitionCmpFunc_912_s1 .no)) (.seq (.block (.loop k_slices_partitionCmpFunc_912_s2 .no)) (.seq .no (.seq .no (.seq .no (.seq .no (.seq (.block (.loop k_slices_partitionCmpFunc_912_s3 (.block (.seq (.block (.loop k_slices_partitionCmpFunc_912_s4 .no)) (.seq (.block (.loop k_slices_partitionCmpFunc_912_s5 .no)) .no))))) .no))))))))))
def k_slices_partitionCmpFunc_912_m (N : Nat) (data : List ((List UInt8) × (List UInt8) × (List (Int × (List Int))))) (a : Int) (b : Int) (pivot : Int) (cmp : Unit) : Option (Int × Bool × (List ((List UInt8) × (List UInt8) × (List (Int × (List Int)))))) :=
 (if 0 ≤ pivot ∧ pivot < (data.length : Int) then
 (Option.bind (data[pivot.toNat]?) fun e =>
 (if 0 ≤ a ∧ a < (data.length : Int) then
 (Option.bind (data[a.toNat]?) fun e2 =>
 (if 0 ≤ a ∧ a < (data.length : Int) then
 (Option.bind (data[a.toNat]?) fun e3 =>
 (if 0 ≤ pivot ∧ pivot < ((data.set a.toNat e).length : Int) then
 (Option.bind ((data.set a.toNat e)[pivot.toNat]?) fun e4 =>
 (if fits (a + 1) then (if fits (b - 1) then (iter (fun go (g : (List ((List UInt8) × (List UInt8) × (List (Int × (List Int))))) × Int × Unit × Int × Int) =>
 match g with
 | (data2, a2, cmp2, i, j) =>
 (bif (decide (i ≤ j)) then
 (if 0 ≤ i ∧ i < (data2.length : Int) then
 (Option.bind (data2[i.toNat]?) fun e5 =>
 (if 0 ≤ a2 ∧ a2 < (data2.length : Int) then
 (Option.bind (data2[a2.toNat]?) fun e6 =>
 (Option.bind (i_SegOf_1_m N e5.1 e5.2.1 e5.2.2 e6.1 e6.2.1 e6.2.2) fun r =>
 (bif (decide (r < 0)) then
 (if fits (i + 1) then (go (data2, a2, (), (i + 1), j)) else none)
 else
 (iter (fun go2 (g : (List ((List UInt8) × (List UInt8) × (List (Int × (List Int))))) × Int × Unit × Int × Int) =>
 match g with
 | (data3, a3, cmp3, i2, j2) =>
 (bif (decide (i2 ≤ j2)) then
 (if 0 ≤ j2 ∧ j2 < (data3.length : Int) then
 (Option.bind (data3[j2.toNat]?) fun e7 =>
 (if 0 ≤ a3 ∧ a3 < (data3.length : Int) then
 (Option.bind (data3[a3.toNat]?) fun e8 =>
 (Option.bind (i_SegOf_1_m N e7.1 e7.2.1 e7.2.2 e8.1 e8.2.1 e8.2.2) fun r2 =>
 (bif (!(decide (r2 < 0))) then
 (if fits (j2 - 1) then (go2 (data3, a3, (), i2, (j2 - 1))) else none)
 else
 (bif (decide (j2 < i2)) then
 (if 0 ≤ a3 ∧ a3 < (data3.length : Int) then
 (Option.bind (data3[a3.toNat]?) fun e9 =>
 (if 0 ≤ j2 ∧ j2 < (data3.length : Int) then
 (Option.bind (data3[j2.toNat]?) fun e10 =>
 (if 0 ≤ j2 ∧ j2 < (data3.length : Int) then
 (Option.bind (data3[j2.toNat]?) fun e11 =>
 (if 0 ≤ a3 ∧ a3 < ((data3.set j2.toNat e9).length : Int) then
 (Option.bind ((data3.set j2.toNat e9)[a3.toNat]?) fun e12 =>
 (some (j2, true, ((data3.set j2.toNat e9).set a3.toNat e10))))
 else none))
 else none))
 else none))
 else none)
 else
 (if 0 ≤ j2 ∧ j2 < (data3.length : Int) then
 (Option.bind (data3[j2.toNat]?) fun e13 =>
 (if 0 ≤ i2 ∧ i2 < (data3.length : Int) then
 (Option.bind (data3[i2.toNat]?) fun e14 =>
 (if 0 ≤ i2 ∧ i2 < (data3.length : Int) then
 (Option.bind (data3[i2.toNat]?) fun e15 =>
 (if 0 ≤ j2 ∧ j2 < ((data3.set i2.toNat e13).length : Int) then
 (Option.bind ((data3.set i2.toNat e13)[j2.toNat]?) fun e16 =>
 (if fits (i2 + 1) then (if fits (j2 - 1) then (iter (fun go3 (g : (List ((List UInt8) × (List UInt8) × (List (Int × (List Int))))) × Int × Unit × Int × Int) =>
 match g with
 | (data4, a4, cmp4, i3, j3) =>
 (iter (fun go4 (g : (List ((List UInt8) × (List UInt8) × (List (Int × (List Int))))) × Int × Unit × Int × Int) =>
 match g with
 | (data5, a5, cmp5, i4, j4) =>
 (bif (decide (i4 ≤ j4)) then
 (if 0 ≤ i4 ∧ i4 < (data5.length : Int) then
 (Option.bind (data5[i4.toNat]?) fun e17 =>
 (if 0 ≤ a5 ∧ a5 < (data5.length : Int) then
 (Option.bind (data5[a5.toNat]?) fun e18 =>
 (Option.bind (i_SegOf_1_m N e17.1 e17.2.1 e17.2.2 e18.1 e18.2.1 e18.2.2) fun r3 =>
 (bif (decide (r3 < 0)) then
 (if fits (i4 + 1) then (go4 (data5, a5, (), (i4 + 1), j4)) else none)
 else
 (iter (fun go5 (g : (List ((List UInt8) × (List UInt8) × (List (Int × (List Int))))) × Int × Unit × Int × Int) =>
 match g with
 | (data6, a6, cmp6, i5, j5) =>
 (bif (decide (i5 ≤ j5)) then
 (if 0 ≤ j5 ∧ j5 < (data6.length : Int) then
 (Option.bind (data6[j5.toNat]?) fun e19 =>
 (if 0 ≤ a6 ∧ a6 < (data6.length : Int) then
 (Option.bind (data6[a6.toNat]?) fun e20 =>
 (Option.bind (i_SegOf_1_m N e19.1 e19.2.1 e19.2.2 e20.1 e20.2.1 e20.2.2) fun r4 =>
 (bif (!(decide (r4 < 0))) then
 (if fits (j5 - 1) then (go5 (data6, a6, (), i5, (j5 - 1))) else none)
 else
 (bif (decide (j5 < i5)) then
 (if 0 ≤ a6 ∧ a6 < (data6.length : Int) then
 (Option.bind (data6[a6.toNat]?) fun e21 =>
 (if 0 ≤ j5 ∧ j5 < (data6.length : Int) then
 (Option.bind (data6[j5.toNat]?) fun e22 =>
 (if 0 ≤ j5 ∧ j5 < (data6.length : Int) then
 (Option.bind (data6[j5.toNat]?) fun e23 =>
 (if 0 ≤ a6 ∧ a6 < ((data6.set j5.toNat e21).length : Int) then
 (Option.bind ((data6.set j5.toNat e21)[a6.toNat]?) fun e24 =>
 (some (j5, false, ((data6.set j5.toNat e21).set a6.toNat e22))))
 else none))
 else none))
 else none))
 else none)
 else
 (if 0 ≤ j5 ∧ j5 < (data6.length : Int) then
 (Option.bind (data6[j5.toNat]?) fun e25 =>
 (if 0 ≤ i5 ∧ i5 < (data6.length : Int) then
 (Option.bind (data6[i5.toNat]?) fun e26 =>
 (if 0 ≤ i5 ∧ i5 < (data6.length : Int) then
 (Option.bind (data6[i5.toNat]?) fun e27 =>
 (if 0 ≤ j5 ∧ j5 < ((data6.set i5.toNat e25).length : Int) then
 (Option.bind ((data6.set i5.toNat e25)[j5.toNat]?) fun e28 =>
 (if fits (i5 + 1) then (if fits (j5 - 1) then (go3 (((data6.set i5.toNat e25).set j5.toNat e26), a6, (), (i5 + 1), (j5 - 1))) else none) else none))
 else none))
 else none))
 else none))
 else none)))))
 else none))
 else none)
 else
 (bif (decide (j5 < i5)) then
 (if 0 ≤ a6 ∧ a6 < (data6.length : Int) then
 (Option.bind (data6[a6.toNat]?) fun e29 =>
 (if 0 ≤ j5 ∧ j5 < (data6.length : Int) then
 (Option.bind (data6[j5.toNat]?) fun e30 =>
 (if 0 ≤ j5 ∧ j5 < (data6.length : Int) then
 (Option.bind (data6[j5.toNat]?) fun e31 =>
 (if 0 ≤ a6 ∧ a6 < ((data6.set j5.toNat e29).length : Int) then
 (Option.bind ((data6.set j5.toNat e29)[a6.toNat]?) fun e32 =>
 (some (j5, false, ((data6.set j5.toNat e29).set a6.toNat e30))))
 else none))
 else none))
 else none))
 else none)
 else
 (if 0 ≤ j5 ∧ j5 < (data6.length : Int) then
 (Option.bind (data6[j5.toNat]?) fun e33 =>
 (if 0 ≤ i5 ∧ i5 < (data6.length : Int) then
 (Option.bind (data6[i5.toNat]?) fun e34 =>
 (if 0 ≤ i5 ∧ i5 < (data6.length : Int) then
 (Option.bind (data6[i5.toNat]?) fun e35 =>
 (if 0 ≤ j5 ∧ j5 < ((data6.set i5.toNat e33).length : Int) then
 (Option.bind ((data6.set i5.toNat e33)[j5.toNat]?) fun e36 =>
 (if fits (i5 + 1) then (if fits (j5 - 1) then (go3 (((data6.set i5.toNat e33).set j5.toNat e34), a6, (), (i5 + 1), (j5 - 1))) else none) else none))
 else none))
 else none))
 else none))
 else none)))) N (data5, a5, (), i4, j4)))))
 else none))
 else none)
 else
 (iter (fun go6 (g : (List ((List UInt8) × (List UInt8) × (List (Int × (List Int))))) × Int × Unit × Int × Int) =>
 match g with
 | (data7, a7, cmp7, i6, j6) =>
 (bif (decide (i6 ≤ j6)) then
 (if 0 ≤ j6 ∧ j6 < (data7.length : Int) then
 (Option.bind (data7[j6.toNat]?) fun e37 =>
 (if 0 ≤ a7 ∧ a7 < (data7.length : Int) then
 (Option.bind (data7[a7.toNat]?) fun e38 =>
 (Option.bind (i_SegOf_1_m N e37.1 e37.2.1 e37.2.2 e38.1 e38.2.1 e38.2.2) fun r5 =>
 (bif (!(decide (r5 < 0))) then
 (if fits (j6 - 1) then (go6 (data7, a7, (), i6, (j6 - 1))) else none)
 else
 (bif (decide (j6 < i6)) then
 (if 0 ≤ a7 ∧ a7 < (data7.length : Int) then
 (Option.bind (data7[a7.toNat]?) fun e39 =>
 (if 0 ≤ j6 ∧ j6 < (data7.length : Int) then
 (Option.bind (data7[j6.toNat]?) fun e40 =>
 (if 0 ≤ j6 ∧ j6 < (data7.length : Int) then
 (Option.bind (data7[j6.toNat]?) fun e41 =>
 (if 0 ≤ a7 ∧ a7 < ((data7.set j6.toNat e39).length : Int) then
 (Option.bind ((data7.set j6.toNat e39)[a7.toNat]?) fun e42 =>
 (some (j6, false, ((data7.set j6.toNat e39).set a7.toNat e40))))
 else none))
 else none))
 else none))
 else none)
 else
 (if 0 ≤ j6 ∧ j6 < (data7.length : Int) then
 (Option.bind (data7[j6.toNat]?) fun e43 =>
 (if 0 ≤ i6 ∧ i6 < (data7.length : Int) then
 (Option.bind (data7[i6.toNat]?) fun e44 =>
 (if 0 ≤ i6 ∧ i6 < (data7.length : Int) then
 (Option.bind (data7[i6.toNat]?) fun e45 =>
 (if 0 ≤ j6 ∧ j6 < ((data7.set i6.toNat e43).length : Int) then
 (Option.bind ((data7.set i6.toNat e43)[j6.toNat]?) fun e46 =>
 (if fits (i6 + 1) then (if fits (j6 - 1) then (go3 (((data7.set i6.toNat e43).set j6.toNat e44), a7, (), (i6 + 1), (j6 - 1))) else none) else none))
 else none))
 else none))
 else none))
 else none)))))
 else none))
 else none)
 else
 (bif (decide (j6 < i6)) then
 (if 0 ≤ a7 ∧ a7 < (data7.length : Int) then
 (Option.bind (data7[a7.toNat]?) fun e47 =>
 (if 0 ≤ j6 ∧ j6 < (data7.length : Int) then
 (Option.bind (data7[j6.toNat]?) fun e48 =>
 (if 0 ≤ j6 ∧ j6 < (data7.length : Int) then
 (Option.bind (data7[j6.toNat]?) fun e49 =>
 (if 0 ≤ a7 ∧ a7 < ((data7.set j6.toNat e47).length : Int) then
 (Option.bind ((data7.set j6.toNat e47)[a7.toNat]?) fun e50 =>
 (some (j6, false, ((data7.set j6.toNat e47).set a7.toNat e48))))
 else none))
 else none))
 else none))
 else none)
 else
 (if 0 ≤ j6 ∧ j6 < (data7.length : Int) then
 (Option.bind (data7[j6.toNat]?) fun e51 =>
 (if 0 ≤ i6 ∧ i6 < (data7.length : Int) then
 (Option.bind (data7[i6.toNat]?) fun e52 =>
 (if 0 ≤ i6 ∧ i6 < (data7.length : Int) then
 (Option.bind (data7[i6.toNat]?) fun e53 =>
 (if 0 ≤ j6 ∧ j6 < ((data7.set i6.toNat e51).length : Int) then
 (Option.bind ((data7.set i6.toNat e51)[j6.toNat]?) fun e54 =>
 (if fits (i6 + 1) then (if fits (j6 - 1) then (go3 (((data7.set i6.toNat e51).set j6.toNat e52), a7, (), (i6 + 1), (j6 - 1))) else none) else none))
 else none))
 else none))
 else none))
 else none)))) N (data5, a5, (), i4, j4)))) N (data4, a4, (), i3, j3))) N (((data3.set i2.toNat e13).set j2.toNat e14), a3, (), (i2 + 1), (j2 - 1))) else none) else none))
 else none))
 else none))
 else none))
 else none)))))
 else none))
 else none)
 else
 (bif (decide (j2 < i2)) then
 (if 0 ≤ a3 ∧ a3 < (data3.length : Int) then
 (Option.bind (data3[a3.toNat]?) fun e55 =>
 (if 0 ≤ j2 ∧ j2 < (data3.length : Int) then
 (Option.bind (data3[j2.toNat]?) fun e56 =>
 (if 0 ≤ j2 ∧ j2 < (data3.length : Int) then
 (Option.bind (data3[j2.toNat]?) fun e57 =>
 (if 0 ≤ a3 ∧ a3 < ((data3.set j2.toNat e55).length : Int) then
 (Option.bind ((data3.set j2.toNat e55)[a3.toNat]?) fun e58 =>
 (some (j2, true, ((data3.set j2.toNat e55).set a3.toNat e56))))
 else none))
 else none))
 else none))
 else none)
 else
 (if 0 ≤ j2 ∧ j2 < (data3.length : Int) then
 (Option.bind (data3[j2.toNat]?) fun e59 =>
 (if 0 ≤ i2 ∧ i2 < (data3.length : Int) then
 (Option.bind (data3[i2.toNat]?) fun e60 =>
 (if 0 ≤ i2 ∧ i2 < (data3.length : Int) then
 (Option.bind (data3[i2.toNat]?) fun e61 =>
 (if 0 ≤ j2 ∧ j2 < ((data3.set i2.toNat e59).length : Int) then
 (Option.bind ((data3.set i2.toNat e59)[j2.toNat]?) fun e62 =>
 (if fits (i2 + 1) then (if fits (j2 - 1) then (iter (fun go7 (g : (List ((List UInt8) × (List UInt8) × (List (Int × (List Int))))) × Int × Unit × Int × Int) =>
 match g with
 | (data8, a8, cmp8, i7, j7) =>
 (iter (fun go8 (g : (List ((List UInt8) × (List UInt8) × (List (Int × (List Int))))) × Int × Unit × Int × Int) =>
 match g with
 | (data9, a9, cmp9, i8, j8) =>
 (bif (decide (i8 ≤ j8)) then
 (if 0 ≤ i8 ∧ i8 < (data9.length : Int) then
 (Option.bind (data9[i8.toNat]?) fun e63 =>
 (if 0 ≤ a9 ∧ a9 < (data9.length : Int) then
 (Option.bind (data9[a9.toNat]?) fun e64 =>
 (Option.bind (i_SegOf_1_m N e63.1 e63.2.1 e63.2.2 e64.1 e64.2.1 e64.2.2) fun r6 =>
 (bif (decide (r6 < 0)) then
 (if fits (i8 + 1) then (go8 (data9, a9, (), (i8 + 1), j8)) else none)
 else
 (iter (fun go9 (g : (List ((List UInt8) × (List UInt8) × (List (Int × (List Int))))) × Int × Unit × Int × Int) =>
 match g with
 | (data10, a10, cmp10, i9, j9) =>
 (bif (decide (i9 ≤ j9)) then
 (if 0 ≤ j9 ∧ j9 < (data10.length : Int) then
 (Option.bind (data10[j9.toNat]?) fun e65 =>
 (if 0 ≤ a10 ∧ a10 < (data10.length : Int) then
 (Option.bind (data10[a10.toNat]?) fun e66 =>
 (Option.bind (i_SegOf_1_m N e65.1 e65.2.1 e65.2.2 e66.1 e66.2.1 e66.2.2) fun r7 =>
 (bif (!(decide (r7 < 0))) then
 (if fits (j9 - 1) then (go9 (data10, a10, (), i9, (j9 - 1))) else none)
 else
 (bif (decide (j9 < i9)) then
 (if 0 ≤ a10 ∧ a10 < (data10.length : Int) then
 (Option.bind (data10[a10.toNat]?) fun e67 =>
 (if 0 ≤ j9 ∧ j9 < (data10.length : Int) then
 (Option.bind (data10[j9.toNat]?) fun e68 =>
 (if 0 ≤ j9 ∧ j9 < (data10.length : Int) then
 (Option.bind (data10[j9.toNat]?) fun e69 =>
 (if 0 ≤ a10 ∧ a10 < ((data10.set j9.toNat e67).length : Int) then
 (Option.bind ((data10.set j9.toNat e67)[a10.toNat]?) fun e70 =>
 (some (j9, false, ((data10.set j9.toNat e67).set a10.toNat e68))))
 else none))
 else none))
 else none))
 else none)
 else
 (if 0 ≤ j9 ∧ j9 < (data10.length : Int) then
 (Option.bind (data10[j9.toNat]?) fun e71 =>
 (if 0 ≤ i9 ∧ i9 < (data10.length : Int) then
 (Option.bind (data10[i9.toNat]?) fun e72 =>
 (if 0 ≤ i9 ∧ i9 < (data10.length : Int) then
 (Option.bind (data10[i9.toNat]?) fun e73 =>
 (if 0 ≤ j9 ∧ j9 < ((data10.set i9.toNat e71).length : Int) then
 (Option.bind ((data10.set i9.toNat e71)[j9.toNat]?) fun e74 =>
 (if fits (i9 + 1) then (if fits (j9 - 1) then (go7 (((data10.set i9.toNat e71).set j9.toNat e72), a10, (), (i9 + 1), (j9 - 1))) else none) else none))
 else none))
 else none))
 else none))
 else none)))))
 else none))
 else none)
 else
 (bif (decide (j9 < i9)) then
 (if 0 ≤ a10 ∧ a10 < (data10.length : Int) then
 (Option.bind (data10[a10.toNat]?) fun e75 =>
 (if 0 ≤ j9 ∧ j9 < (data10.length : Int) then
 (Option.bind (data10[j9.toNat]?) fun e76 =>
 (if 0 ≤ j9 ∧ j9 < (data10.length : Int) then
 (Option.bind (data10[j9.toNat]?) fun e77 =>
 (if 0 ≤ a10 ∧ a10 < ((data10.set j9.toNat e75).length : Int) then
 (Option.bind ((data10.set j9.toNat e75)[a10.toNat]?) fun e78 =>
 (some (j9, false, ((data10.set j9.toNat e75).set a10.toNat e76))))
 else none))
 else none))
 else none))
 else none)
 else
 (if 0 ≤ j9 ∧ j9 < (data10.length : Int) then
 (Option.bind (data10[j9.toNat]?) fun e79 =>
 (if 0 ≤ i9 ∧ i9 < (data10.length : Int) then
 (Option.bind (data10[i9.toNat]?) fun e80 =>
 (if 0 ≤ i9 ∧ i9 < (data10.length : Int) then
 (Option.bind (data10[i9.toNat]?) fun e81 =>
 (if 0 ≤ j9 ∧ j9 < ((data10.set i9.toNat e79).length : Int) then
 (Option.bind ((data10.set i9.toNat e79)[j9.toNat]?) fun e82 =>
 (if fits (i9 + 1) then (if fits (j9 - 1) then (go7 (((data10.set i9.toNat e79).set j9.toNat e80), a10, (), (i9 + 1), (j9 - 1))) else none) else none))
 else none))
 else none))
 else none))
 else none)))) N (data9, a9, (), i8, j8)))))
 else none))
 else none)
 else
 (iter (fun go10 (g : (List ((List UInt8) × (List UInt8) × (List (Int × (List Int))))) × Int × Unit × Int × Int) =>
 match g with
 | (data11, a11, cmp11, i10, j10) =>
 (bif (decide (i10 ≤ j10)) then
 (if 0 ≤ j10 ∧ j10 < (data11.length : Int) then
 (Option.bind (data11[j10.toNat]?) fun e83 =>
 (if 0 ≤ a11 ∧ a11 < (data11.length : Int) then
 (Option.bind (data11[a11.toNat]?) fun e84 =>
 (Option.bind (i_SegOf_1_m N e83.1 e83.2.1 e83.2.2 e84.1 e84.2.1 e84.2.2) fun r8 =>
 (bif (!(decide (r8 < 0))) then
 (if fits (j10 - 1) then (go10 (data11, a11, (), i10, (j10 - 1))) else none)
 else
 (bif (decide (j10 < i10)) then
 (if 0 ≤ a11 ∧ a11 < (data11.length : Int) then
 (Option.bind (data11[a11.toNat]?) fun e85 =>
 (if 0 ≤ j10 ∧ j10 < (data11.length : Int) then
 (Option.bind (data11[j10.toNat]?) fun e86 =>
 (if 0 ≤ j10 ∧ j10 < (data11.length : Int) then
 (Option.bind (data11[j10.toNat]?) fun e87 =>
 (if 0 ≤ a11 ∧ a11 < ((data11.set j10.toNat e85).length : Int) then
 (Option.bind ((data11.set j10.toNat e85)[a11.toNat]?) fun e88 =>
 (some (j10, false, ((data11.set j10.toNat e85).set a11.toNat e86))))
 else none))
 else none))
 else none))
 else none)
 else
 (if 0 ≤ j10 ∧ j10 < (data11.length : Int) then
 (Option.bind (data11[j10.toNat]?) fun e89 =>
 (if 0 ≤ i10 ∧ i10 < (data11.length : Int) then
 (Option.bind (data11[i10.toNat]?) fun e90 =>
 (if 0 ≤ i10 ∧ i10 < (data11.length : Int) then
 (Option.bind (data11[i10.toNat]?) fun e91 =>
 (if 0 ≤ j10 ∧ j10 < ((data11.set i10.toNat e89).length : Int) then
 (Option.bind ((data11.set i10.toNat e89)[j10.toNat]?) fun e92 =>
 (if fits (i10 + 1) then (if fits (j10 - 1) then (go7 (((data11.set i10.toNat e89).set j10.toNat e90), a11, (), (i10 + 1), (j10 - 1))) else none) else none))
 else none))
 else none))
 else none))
 else none)))))
 else none))
 else none)
 else
 (bif (decide (j10 < i10)) then
 (if 0 ≤ a11 ∧ a11 < (data11.length : Int) then
 (Option.bind (data11[a11.toNat]?) fun e93 =>
 (if 0 ≤ j10 ∧ j10 < (data11.length : Int) then
 (Option.bind (data11[j10.toNat]?) fun e94 =>
 (if 0 ≤ j10 ∧ j10 < (data11.length : Int) then
 (Option.bind (data11[j10.toNat]?) fun e95 =>
 (if 0 ≤ a11 ∧ a11 < ((data11.set j10.toNat e93).length : Int) then
 (Option.bind ((data11.set j10.toNat e93)[a11.toNat]?) fun e96 =>
 (some (j10, false, ((data11.set j10.toNat e93).set a11.toNat e94))))
 else none))
 else none))
 else none))
 else none)
 else
 (if 0 ≤ j10 ∧ j10 < (data11.length : Int) then
 (Option.bind (data11[j10.toNat]?) fun e97 =>
 (if 0 ≤ i10 ∧ i10 < (data11.length : Int) then
 (Option.bind (data11[i10.toNat]?) fun e98 =>
 (if 0 ≤ i10 ∧ i10 < (data11.length : Int) then
 (Option.bind (data11[i10.toNat]?) fun e99 =>
 (if 0 ≤ j10 ∧ j10 < ((data11.set i10.toNat e97).length : Int) then
 (Option.bind ((data11.set i10.toNat e97)[j10.toNat]?) fun e100 =>
 (if fits (i10 + 1) then (if fits (j10 - 1) then (go7 (((data11.set i10.toNat e97).set j10.toNat e98), a11, (), (i10 + 1), (j10 - 1))) else none) else none))
 else none))
 else none))
 else none))
 else none)))) N (data9, a9, (), i8, j8)))) N (data8, a8, (), i7, j7))) N (((data3.set i2.toNat e59).set j2.toNat e60), a3, (), (i2 + 1), (j2 - 1))) else none) else none))
 else none))
 else none))
 else none))
 else none)))) N (data2, a2, (), i, j)))))
 else none))
 else none)
 else
 (iter (fun go11 (g : (List ((List UInt8) × (List UInt8) × (List (Int × (List Int))))) × Int × Unit × Int × Int) =>
 match g with
 | (data12, a12, cmp12, i11, j11) =>
 (bif (decide (i11 ≤ j11)) then
 (if 0 ≤ j11 ∧ j11 < (data12.length : Int) then
 (Option.bind (data12[j11.toNat]?) fun e101 =>
 (if 0 ≤ a12 ∧ a12 < (data12.length : Int) then
 (Option.bind (data12[a12.toNat]?) fun e102 =>
 (Option.bind (i_SegOf_1_m N e101.1 e101.2.1 e101.2.2 e102.1 e102.2.1 e102.2.2) fun r9 =>
 (bif (!(decide (r9 < 0))) then
 (if fits (j11 - 1) then (go11 (data12, a12, (), i11, (j11 - 1))) else none)
 else
 (bif (decide (j11 < i11)) then
 (if 0 ≤ a12 ∧ a12 < (data12.length : Int) then
 (Option.bind (data12[a12.toNat]?) fun e103 =>
 (if 0 ≤ j11 ∧ j11 < (data12.length : Int) then
 (Option.bind (data12[j11.toNat]?) fun e104 =>
 (if 0 ≤ j11 ∧ j11 < (data12.length : Int) then
 (Option.bind (data12[j11.toNat]?) fun e105 =>
 (if 0 ≤ a12 ∧ a12 < ((data12.set j11.toNat e103).length : Int) then
 (Option.bind ((data12.set j11.toNat e103)[a12.toNat]?) fun e106 =>
 (some (j11, true, ((data12.set j11.toNat e103).set a12.toNat e104))))
 else none))
 else none))
 else none))
 else none)
 else
 (if 0 ≤ j11 ∧ j11 < (data12.length : Int) then
 (Option.bind (data12[j11.toNat]?) fun e107 =>
 (if 0 ≤ i11 ∧ i11 < (data12.length : Int) then
 (Option.bind (data12[i11.toNat]?) fun e108 =>
 (if 0 ≤ i11 ∧ i11 < (data12.length : Int) then
 (Option.bind (data12[i11.toNat]?) fun e109 =>
 (if 0 ≤ j11 ∧ j11 < ((data12.set i11.toNat e107).length : Int) then
 (Option.bind ((data12.set i11.toNat e107)[j11.toNat]?) fun e110 =>
 (if fits (i11 + 1) then (if fits (j11 - 1) then (iter (fun go12 (g : (List ((List UInt8) × (List UInt8) × (List (Int × (List Int))))) × Int × Unit × Int × Int) =>
 match g with
 | (data13, a13, cmp13, i12, j12) =>
 (iter (fun go13 (g : (List ((List UInt8) × (List UInt8) × (List (Int × (List Int))))) × Int × Unit × Int × Int) =>
 match g with
 | (data14, a14, cmp14, i13, j13) =>
 (bif (decide (i13 ≤ j13)) then
 (if 0 ≤ i13 ∧ i13 < (data14.length : Int) then
 (Option.bind (data14[i13.toNat]?) fun e111 =>
 (if 0 ≤ a14 ∧ a14 < (data14.length : Int) then
 (Option.bind (data14[a14.toNat]?) fun e112 =>
 (Option.bind (i_SegOf_1_m N e111.1 e111.2.1 e111.2.2 e112.1 e112.2.1 e112.2.2) fun r10 =>
 (bif (decide (r10 < 0)) then
 (if fits (i13 + 1) then (go13 (data14, a14, (), (i13 + 1), j13)) else none)
 else
 (iter (fun go14 (g : (List ((List UInt8) × (List UInt8) × (List (Int × (List Int))))) × Int × Unit × Int × Int) =>
 match g with
 | (data15, a15, cmp15, i14, j14) =>
 (bif (decide (i14 ≤ j14)) then
 (if 0 ≤ j14 ∧ j14 < (data15.length : Int) then
 (Option.bind (data15[j14.toNat]?) fun e113 =>
 (if 0 ≤ a15 ∧ a15 < (data15.length : Int) then
 (Option.bind (data15[a15.toNat]?) fun e114 =>
 (Option.bind (i_SegOf_1_m N e113.1 e113.2.1 e113.2.2 e114.1 e114.2.1 e114.2.2) fun r11 =>
 (bif (!(decide (r11 < 0))) then
 (if fits (j14 - 1) then (go14 (data15, a15, (), i14, (j14 - 1))) else none)
 else
 (bif (decide (j14 < i14)) then
 (if 0 ≤ a15 ∧ a15 < (data15.length : Int) then
 (Option.bind (data15[a15.toNat]?) fun e115 =>
 (if 0 ≤ j14 ∧ j14 < (data15.length : Int) then
 (Option.bind (data15[j14.toNat]?) fun e116 =>
 (if 0 ≤ j14 ∧ j14 < (data15.length : Int) then
 (Option.bind (data15[j14.toNat]?) fun e117 =>
 (if 0 ≤ a15 ∧ a15 < ((data15.set j14.toNat e115).length : Int) then
 (Option.bind ((data15.set j14.toNat e115)[a15.toNat]?) fun e118 =>
 (some (j14, false, ((data15.set j14.toNat e115).set a15.toNat e116))))
 else none))
 else none))
 else none))
 else none)
 else
 (if 0 ≤ j14 ∧ j14 < (data15.length : Int) then
 (Option.bind (data15[j14.toNat]?) fun e119 =>
 (if 0 ≤ i14 ∧ i14 < (data15.length : Int) then
 (Option.bind (data15[i14.toNat]?) fun e120 =>
 (if 0 ≤ i14 ∧ i14 < (data15.length : Int) then
 (Option.bind (data15[i14.toNat]?) fun e121 =>
 (if 0 ≤ j14 ∧ j14 < ((data15.set i14.toNat e119).length : Int) then
 (Option.bind ((data15.set i14.toNat e119)[j14.toNat]?) fun e122 =>
 (if fits (i14 + 1) then (if fits (j14 - 1) then (go12 (((data15.set i14.toNat e119).set j14.toNat e120), a15, (), (i14 + 1), (j14 - 1))) else none) else none))
 else none))
 else none))
 else none))
 else none)))))
 else none))
 else none)
 else
 (bif (decide (j14 < i14)) then
 (if 0 ≤ a15 ∧ a15 < (data15.length : Int) then
 (Option.bind (data15[a15.toNat]?) fun e123 =>
 (if 0 ≤ j14 ∧ j14 < (data15.length : Int) then
 (Option.bind (data15[j14.toNat]?) fun e124 =>
 (if 0 ≤ j14 ∧ j14 < (data15.length : Int) then
 (Option.bind (data15[j14.toNat]?) fun e125 =>
 (if 0 ≤ a15 ∧ a15 < ((data15.set j14.toNat e123).length : Int) then
 (Option.bind ((data15.set j14.toNat e123)[a15.toNat]?) fun e126 =>
 (some (j14, false, ((data15.set j14.toNat e123).set a15.toNat e124))))
 else none))
 else none))
 else none))
 else none)
 else
 (if 0 ≤ j14 ∧ j14 < (data15.length : Int) then
 (Option.bind (data15[j14.toNat]?) fun e127 =>
 (if 0 ≤ i14 ∧ i14 < (data15.length : Int) then
 (Option.bind (data15[i14.toNat]?) fun e128 =>
 (if 0 ≤ i14 ∧ i14 < (data15.length : Int) then
 (Option.bind (data15[i14.toNat]?) fun e129 =>
 (if 0 ≤ j14 ∧ j14 < ((data15.set i14.toNat e127).length : Int) then
 (Option.bind ((data15.set i14.toNat e127)[j14.toNat]?) fun e130 =>
 (if fits (i14 + 1) then (if fits (j14 - 1) then (go12 (((data15.set i14.toNat e127).set j14.toNat e128), a15, (), (i14 + 1), (j14 - 1))) else none) else none))
 else none))
 else none))
 else none))
 else none)))) N (data14, a14, (), i13, j13)))))
 else none))
 else none)
 else
 (iter (fun go15 (g : (List ((List UInt8) × (List UInt8) × (List (Int × (List Int))))) × Int × Unit × Int × Int) =>
 match g with
 | (data16, a16, cmp16, i15, j15) =>
 (bif (decide (i15 ≤ j15)) then
 (if 0 ≤ j15 ∧ j15 < (data16.length : Int) then
 (Option.bind (data16[j15.toNat]?) fun e131 =>
 (if 0 ≤ a16 ∧ a16 < (data16.length : Int) then
 (Option.bind (data16[a16.toNat]?) fun e132 =>
 (Option.bind (i_SegOf_1_m N e131.1 e131.2.1 e131.2.2 e132.1 e132.2.1 e132.2.2) fun r12 =>
 (bif (!(decide (r12 < 0))) then
 (if fits (j15 - 1) then (go15 (data16, a16, (), i15, (j15 - 1))) else none)
 else
 (bif (decide (j15 < i15)) then
 (if 0 ≤ a16 ∧ a16 < (data16.length : Int) then
 (Option.bind (data16[a16.toNat]?) fun e133 =>
 (if 0 ≤ j15 ∧ j15 < (data16.length : Int) then
 (Option.bind (data16[j15.toNat]?) fun e134 =>
 (if 0 ≤ j15 ∧ j15 < (data16.length : Int) then
 (Option.bind (data16[j15.toNat]?) fun e135 =>
 (if 0 ≤ a16 ∧ a16 < ((data16.set j15.toNat e133).length : Int) then
 (Option.bind ((data16.set j15.toNat e133)[a16.toNat]?) fun e136 =>
 (some (j15, false, ((data16.set j15.toNat e133).set a16.toNat e134))))
 else none))
 else none))
 else none))
 else none)
 else
 (if 0 ≤ j15 ∧ j15 < (data16.length : Int) then
 (Option.bind (data16[j15.toNat]?) fun e137 =>
 (if 0 ≤ i15 ∧ i15 < (data16.length : Int) then
 (Option.bind (data16[i15.toNat]?) fun e138 =>
 (if 0 ≤ i15 ∧ i15 < (data16.length : Int) then
 (Option.bind (data16[i15.toNat]?) fun e139 =>
 (if 0 ≤ j15 ∧ j15 < ((data16.set i15.toNat e137).length : Int) then
 (Option.bind ((data16.set i15.toNat e137)[j15.toNat]?) fun e140 =>
 (if fits (i15 + 1) then (if fits (j15 - 1) then (go12 (((data16.set i15.toNat e137).set j15.toNat e138), a16, (), (i15 + 1), (j15 - 1))) else none) else none))
 else none))
 else none))
 else none))
 else none)))))
 else none))
 else none)
 else
 (bif (decide (j15 < i15)) then
 (if 0 ≤ a16 ∧ a16 < (data16.length : Int) then
 (Option.bind (data16[a16.toNat]?) fun e141 =>
 (if 0 ≤ j15 ∧ j15 < (data16.length : Int) then
 (Option.bind (data16[j15.toNat]?) fun e142 =>
 (if 0 ≤ j15 ∧ j15 < (data16.length : Int) then
 (Option.bind (data16[j15.toNat]?) fun e143 =>
 (if 0 ≤ a16 ∧ a16 < ((data16.set j15.toNat e141).length : Int) then
 (Option.bind ((data16.set j15.toNat e141)[a16.toNat]?) fun e144 =>
 (some (j15, false, ((data16.set j15.toNat e141).set a16.toNat e142))))
 else none))
 else none))
 else none))
 else none)
 else
 (if 0 ≤ j15 ∧ j15 < (data16.length : Int) then
 (Option.bind (data16[j15.toNat]?) fun e145 =>
 (if 0 ≤ i15 ∧ i15 < (data16.length : Int) then
 (Option.bind (data16[i15.toNat]?) fun e146 =>
 (if 0 ≤ i15 ∧ i15 < (data16.length : Int) then
 (Option.bind (data16[i15.toNat]?) fun e147 =>
 (if 0 ≤ j15 ∧ j15 < ((data16.set i15.toNat e145).length : Int) then
 (Option.bind ((data16.set i15.toNat e145)[j15.toNat]?) fun e148 =>
 (if fits (i15 + 1) then (if fits (j15 - 1) then (go12 (((data16.set i15.toNat e145).set j15.toNat e146), a16, (), (i15 + 1), (j15 - 1))) else none) else none))
 else none))
 else none))
 else none))
 else none)))) N (data14, a14, (), i13, j13)))) N (data13, a13, (), i12, j12))) N (((data12.set i11.toNat e107).set j11.toNat e108), a12, (), (i11 + 1), (j11 - 1))) else none) else none))
 else none))
 else none))
 else none))
 else none)))))
 else none))
 else none)
 else
 (bif (decide (j11 < i11)) then
 (if 0 ≤ a12 ∧ a12 < (data12.length : Int) then
 (Option.bind (data12[a12.toNat]?) fun e149 =>
 (if 0 ≤ j11 ∧ j11 < (data12.length : Int) then
 (Option.bind (data12[j11.toNat]?) fun e150 =>
 (if 0 ≤ j11 ∧ j11 < (data12.length : Int) then
 (Option.bind (data12[j11.toNat]?) fun e151 =>
 (if 0 ≤ a12 ∧ a12 < ((data12.set j11.toNat e149).length : Int) then
 (Option.bind ((data12.set j11.toNat e149)[a12.toNat]?) fun e152 =>
 (some (j11, true, ((data12.set j11.toNat e149).set a12.toNat e150))))
 else none))
 else none))
 else none))
 else none)
 else
 (if 0 ≤ j11 ∧ j11 < (data12.length : Int) then
 (Option.bind (data12[j11.toNat]?) fun e153 =>
 (if 0 ≤ i11 ∧ i11 < (data12.length : Int) then
 (Option.bind (data12[i11.toNat]?) fun e154 =>
 (if 0 ≤ i11 ∧ i11 < (data12.length : Int) then
 (Option.bind (data12[i11.toNat]?) fun e155 =>
 (if 0 ≤ j11 ∧ j11 < ((data12.set i11.toNat e153).length : Int) then
 (Option.bind ((data12.set i11.toNat e153)[j11.toNat]?) fun e156 =>
 (if fits (i11 + 1) then (if fits (j11 - 1) then (iter (fun go16 (g : (List ((List UInt8) × (List UInt8) × (List (Int × (List Int))))) × Int × Unit × Int × Int) =>
 match g with
 | (data17, a17, cmp17, i16, j16) =>
 (iter (fun go17 (g : (List ((List UInt8) × (List UInt8) × (List (Int × (List Int))))) × Int × Unit × Int × Int) =>
 match g with
 | (data18, a18, cmp18, i17, j17) =>
 (bif (decide (i17 ≤ j17)) then
 (if 0 ≤ i17 ∧ i17 < (data18.length : Int) then
 (Option.bind (data18[i17.toNat]?) fun e157 =>
 (if 0 ≤ a18 ∧ a18 < (data18.length : Int) then
 (Option.bind (data18[a18.toNat]?) fun e158 =>
 (Option.bind (i_SegOf_1_m N e157.1 e157.2.1 e157.2.2 e158.1 e158.2.1 e158.2.2) fun r13 =>
 (bif (decide (r13 < 0)) then
 (if fits (i17 + 1) then (go17 (data18, a18, (), (i17 + 1), j17)) else none)
 else
 (iter (fun go18 (g : (List ((List UInt8) × (List UInt8) × (List (Int × (List Int))))) × Int × Unit × Int × Int) =>
 match g with
 | (data19, a19, cmp19, i18, j18) =>
 (bif (decide (i18 ≤ j18)) then
 (if 0 ≤ j18 ∧ j18 < (data19.length : Int) then
 (Option.bind (data19[j18.toNat]?) fun e159 =>
 (if 0 ≤ a19 ∧ a19 < (data19.length : Int) then
 (Option.bind (data19[a19.toNat]?) fun e160 =>
 (Option.bind (i_SegOf_1_m N e159.1 e159.2.1 e159.2.2 e160.1 e160.2.1 e160.2.2) fun r14 =>
 (bif (!(decide (r14 < 0))) then
 (if fits (j18 - 1) then (go18 (data19, a19, (), i18, (j18 - 1))) else none)
 else
 (bif (decide (j18 < i18)) then
 (if 0 ≤ a19 ∧ a19 < (data19.length : Int) then
 (Option.bind (data19[a19.toNat]?) fun e161 =>
 (if 0 ≤ j18 ∧ j18 < (data19.length : Int) then
 (Option.bind (data19[j18.toNat]?) fun e162 =>
 (if 0 ≤ j18 ∧ j18 < (data19.length : Int) then
 (Option.bind (data19[j18.toNat]?) fun e163 =>
 (if 0 ≤ a19 ∧ a19 < ((data19.set j18.toNat e161).length : Int) then
 (Option.bind ((data19.set j18.toNat e161)[a19.toNat]?) fun e164 =>
 (some (j18, false, ((data19.set j18.toNat e161).set a19.toNat e162))))
 else none))
 else none))
 else none))
 else none)
 else
 (if 0 ≤ j18 ∧ j18 < (data19.length : Int) then
 (Option.bind (data19[j18.toNat]?) fun e165 =>
 (if 0 ≤ i18 ∧ i18 < (data19.length : Int) then
 (Option.bind (data19[i18.toNat]?) fun e166 =>
 (if 0 ≤ i18 ∧ i18 < (data19.length : Int) then
 (Option.bind (data19[i18.toNat]?) fun e167 =>
 (if 0 ≤ j18 ∧ j18 < ((data19.set i18.toNat e165).length : Int) then
 (Option.bind ((data19.set i18.toNat e165)[j18.toNat]?) fun e168 =>
 (if fits (i18 + 1) then (if fits (j18 - 1) then (go16 (((data19.set i18.toNat e165).set j18.toNat e166), a19, (), (i18 + 1), (j18 - 1))) else none) else none))
 else none))
 else none))
 else none))
 else none)))))
 else none))
 else none)
 else
 (bif (decide (j18 < i18)) then
 (if 0 ≤ a19 ∧ a19 < (data19.length : Int) then
 (Option.bind (data19[a19.toNat]?) fun e169 =>
 (if 0 ≤ j18 ∧ j18 < (data19.length : Int) then
 (Option.bind (data19[j18.toNat]?) fun e170 =>
 (if 0 ≤ j18 ∧ j18 < (data19.length : Int) then
 (Option.bind (data19[j18.toNat]?) fun e171 =>
 (if 0 ≤ a19 ∧ a19 < ((data19.set j18.toNat e169).length : Int) then
 (Option.bind ((data19.set j18.toNat e169)[a19.toNat]?) fun e172 =>
 (some (j18, false, ((data19.set j18.toNat e169).set a19.toNat e170))))
 else none))
 else none))
 else none))
 else none)
 else
 (if 0 ≤ j18 ∧ j18 < (data19.length : Int) then
 (Option.bind (data19[j18.toNat]?) fun e173 =>
 (if 0 ≤ i18 ∧ i18 < (data19.length : Int) then
 (Option.bind (data19[i18.toNat]?) fun e174 =>
 (if 0 ≤ i18 ∧ i18 < (data19.length : Int) then
 (Option.bind (data19[i18.toNat]?) fun e175 =>
 (if 0 ≤ j18 ∧ j18 < ((data19.set i18.toNat e173).length : Int) then
 (Option.bind ((data19.set i18.toNat e173)[j18.toNat]?) fun e176 =>
 (if fits (i18 + 1) then (if fits (j18 - 1) then (go16 (((data19.set i18.toNat e173).set j18.toNat e174), a19, (), (i18 + 1), (j18 - 1))) else none) else none))
 else none))
 else none))
 else none))
 else none)))) N (data18, a18, (), i17, j17)))))
 else none))
 else none)
 else
 (iter (fun go19 (g : (List ((List UInt8) × (List UInt8) × (List (Int × (List Int))))) × Int × Unit × Int × Int) =>
 match g with
 | (data20, a20, cmp20, i19, j19) =>
 (bif (decide (i19 ≤ j19)) then
 (if 0 ≤ j19 ∧ j19 < (data20.length : Int) then
 (Option.bind (data20[j19.toNat]?) fun e177 =>
 (if 0 ≤ a20 ∧ a20 < (data20.length : Int) then
 (Option.bind (data20[a20.toNat]?) fun e178 =>
 (Option.bind (i_SegOf_1_m N e177.1 e177.2.1 e177.2.2 e178.1 e178.2.1 e178.2.2) fun r15 =>
 (bif (!(decide (r15 < 0))) then
 (if fits (j19 - 1) then (go19 (data20, a20, (), i19, (j19 - 1))) else none)
 else
 (bif (decide (j19 < i19)) then
 (if 0 ≤ a20 ∧ a20 < (data20.length : Int) then
 (Option.bind (data20[a20.toNat]?) fun e179 =>
 (if 0 ≤ j19 ∧ j19 < (data20.length : Int) then
 (Option.bind (data20[j19.toNat]?) fun e180 =>
 (if 0 ≤ j19 ∧ j19 < (data20.length : Int) then
 (Option.bind (data20[j19.toNat]?) fun e181 =>
 (if 0 ≤ a20 ∧ a20 < ((data20.set j19.toNat e179).length : Int) then
 (Option.bind ((data20.set j19.toNat e179)[a20.toNat]?) fun e182 =>
 (some (j19, false, ((data20.set j19.toNat e179).set a20.toNat e180))))
 else none))
 else none))
 else none))
 else none)
 else
 (if 0 ≤ j19 ∧ j19 < (data20.length : Int) then
 (Option.bind (data20[j19.toNat]?) fun e183 =>
 (if 0 ≤ i19 ∧ i19 < (data20.length : Int) then
 (Option.bind (data20[i19.toNat]?) fun e184 =>
 (if 0 ≤ i19 ∧ i19 < (data20.length : Int) then
 (Option.bind (data20[i19.toNat]?) fun e185 =>
 (if 0 ≤ j19 ∧ j19 < ((data20.set i19.toNat e183).length : Int) then
 (Option.bind ((data20.set i19.toNat e183)[j19.toNat]?) fun e186 =>
 (if fits (i19 + 1) then (if fits (j19 - 1) then (go16 (((data20.set i19.toNat e183).set j19.toNat e184), a20, (), (i19 + 1), (j19 - 1))) else none) else none))
 else none))
 else none))
 else none))
 else none)))))
 else none))
 else none)
 else
 (bif (decide (j19 < i19)) then
 (if 0 ≤ a20 ∧ a20 < (data20.length : Int) then
 (Option.bind (data20[a20.toNat]?) fun e187 =>
 (if 0 ≤ j19 ∧ j19 < (data20.length : Int) then
 (Option.bind (data20[j19.toNat]?) fun e188 =>
 (if 0 ≤ j19 ∧ j19 < (data20.length : Int) then
 (Option.bind (data20[j19.toNat]?) fun e189 =>
 (if 0 ≤ a20 ∧ a20 < ((data20.set j19.toNat e187).length : Int) then
 (Option.bind ((data20.set j19.toNat e187)[a20.toNat]?) fun e190 =>
 (some (j19, false, ((data20.set j19.toNat e187).set a20.toNat e188))))
 else none))
 else none))
 else none))
 else none)
 else
 (if 0 ≤ j19 ∧ j19 < (data20.length : Int) then
 (Option.bind (data20[j19.toNat]?) fun e191 =>
 (if 0 ≤ i19 ∧ i19 < (data20.length : Int) then
 (Option.bind (data20[i19.toNat]?) fun e192 =>
 (if 0 ≤ i19 ∧ i19 < (data20.length : Int) then
 (Option.bind (data20[i19.toNat]?) fun e193 =>
 (if 0 ≤ j19 ∧ j19 < ((data20.set i19.toNat e191).length : Int) then
 (Option.bind ((data20.set i19.toNat e191)[j19.toNat]?) fun e194 =>
 (if fits (i19 + 1) then (if fits (j19 - 1) then (go16 (((data20.set i19.toNat e191).set j19.toNat e192), a20, (), (i19 + 1), (j19 - 1))) else none) else none))
 else none))
 else none))
 else none))
 else none)))) N (data18, a18, (), i17, j17)))) N (data17, a17, (), i16, j16))) N (((data12.set i11.toNat e153).set j11.toNat e154), a12, (), (i11 + 1), (j11 - 1))) else none) else none))
 else none))
 else none))
 else none))
 else none)))) N (data2, a2, (), i, j)))) N (((data.set a.toNat e).set pivot.toNat e2), a, (), (a + 1), (b - 1))) else none) else none))
 else none))
 else none))
 else none))
 else none)
def k_slices_partitionCmpFunc_912_M (N : Nat) : Model := ⟨k_slices_partitionCmpFunc_912_arg, k_slices_partitionCmpFunc_912_ret, fun a => k_slices_partitionCmpFunc_912_m N a.1 a.2.1 a.2.2.1 a.2.2.2.1 a.2.2.2.2⟩
set_option maxRecDepth 1000000 in
theorem k_slices_partitionCmpFunc_912_ok (N : Nat) : ModelOk Tryz.prog 127 (k_slices_partitionCmpFunc_912_M N) :=
  modelOk_of (E := mkEnv [(68, i_SegOf_1_M N)] [] [800000]) (mkEnv_ok (fnsOk_cons (i_SegOf_1_ok N) fnsOk_nil) _ _) Tryz.func127 (by kernel_rfl) rfl N k_slices_partitionCmpFunc_912_h (k_slices_partitionCmpFunc_912_M N) (by kernel_rfl) (by kernel_rfl) (fun a => by kernel_rfl)
/-! slices.pdqsortCmpFunc[loop.example/fossick/impl.Entry] -/
def k_slices_pdqsortCmpFunc_733_arg : Sh := ⟨[.mtk 800000 (.pair .str (.pair .str (.sl (.pair (.int .i64) (.sl (.int .i64)))))) 66 false, .pv (.int .i64), .pv (.int .i64), .pv (.int .i64), .clo 68 []], []⟩
def k_slices_pdqsortCmpFunc_733_ret : Sh := ⟨[.tup [], .mtk 800000 (.pair .str (.pair .str (.sl (.pair (.int .i64) (.sl (.int .i64)))))) 66 false], []⟩
def k_slices_pdqsortCmpFunc_733_s1 : Sh := ⟨.mtk 800000 Y3 66 false :: .pv (.int .i64) :: .pv (.int .i64) :: .pv (.int .i64) :: .clo 68 [] :: dz 5 (.pv .bool :: .pv .bool :: dz 136 []), []⟩
def k_slices_pdqsortCmpFunc_733_s2 : Sh := ⟨.mtk 800000 Y3 66 false :: .pv (.int .i64) :: .pv (.int .i64) :: .pv (.int .i64) :: .clo 68 [] :: dz 5 (.pv .bool :: .pv .bool :: .pv (.int .i64) :: .pv (.int .i64) :: dz 134 []), []⟩
def k_slices_pdqsortCmpFunc_733_s3 : Sh := ⟨.mtk 800000 Y3 66 false :: .pv (.int .i64) :: .pv (.int .i64) :: .pv (.int .i64) :: .clo 68 [] :: dz 5 (.pv .bool :: .pv .bool :: .pv (.int .i64) :: .pv (.int .i64) :: .pv (.int .i64) :: dz 133 []), []⟩
def k_slices_pdqsortCmpFunc_733_s4 : Sh := ⟨.mtk 800000 Y3 66 false :: .pv (.int .i64) :: .pv (.int .i64) :: .pv (.int .i64) :: .clo 68 [] :: dz 5 (.pv .bool :: .pv .bool :: .pv (.int .i64) :: dz 135 []), []⟩
def k_slices_pdqsortCmpFunc_733_h : Hint := (.seq .no (.seq .no (.block (.loop k_slices_pdqsortCmpFunc_733_s1 (.block (.seq .no (.seq .no (.seq .no (.meet k_slices_pdqsortCmpFunc_733_s4 .no (.seq .no (.meet k_slices_pdqsortCmpFunc_733_s3 .no (.meet k_slices_pdqsortCmpFunc_733_s2 .no .no))))))))))))
def k_slices_pdqsortCmpFunc_733_m (N : Nat) : (D : Nat) → (List ((List UInt8) × (List UInt8) × (List (Int × (List Int))))) → Int → Int → Int → Unit → Option ((List ((List UInt8) × (List UInt8) × (List (Int × (List Int))))))
 | 0, _, _, _, _, _ => none
 | D + 1, data, a, b, limit, cmp =>
 (iter (fun go (g : (List ((List UInt8) × (List UInt8) × (List (Int × (List Int))))) × Int × Int × Int × Unit × Bool × Bool) =>
 match g with
 | (data2, a2, b2, limit2, cmp2, wasBalanced, wasPartitioned) =>
 (if fits (b2 - a2) then (bif (decide ((b2 - a2) ≤ 12)) then
 (Option.bind (k_slices_insertionSortCmpFunc_564_m N data2 a2 b2 ()) fun r =>
 (some r))
 else
 (bif (decide (limit2 = 0)) then
 (Option.bind (k_slices_heapSortCmpFunc_198_m N data2 a2 b2 ()) fun r2 =>
 (some r2))
 else
 (meet (fun (g : (List ((List UInt8) × (List UInt8) × (List (Int × (List Int))))) × Int × Int × Int × Unit × Bool × Bool × Int) =>
 match g with
 | (data3, a3, b3, limit3, cmp3, wasBalanced2, wasPartitioned2, length) =>
 (Option.bind (k_slices_choosePivotCmpFunc_68_m N data3 a3 b3 ()) fun r4 =>
 (meet (fun (g : (List ((List UInt8) × (List UInt8) × (List (Int × (List Int))))) × Int × Int × Int × Unit × Bool × Bool × Int × Int × Int) =>
 match g with
 | (data4, a4, b4, limit4, cmp4, wasBalanced3, wasPartitioned3, length2, pivot, hint) =>
 (meet (fun (g : (List ((List UInt8) × (List UInt8) × (List (Int × (List Int))))) × Int × Int × Int × Unit × Bool × Bool × Int × Int) =>
 match g with
 | (data5, a5, b5, limit5, cmp5, wasBalanced4, wasPartitioned4, length3, pivot2) =>
 (bif (decide ((0 : Int) < a5)) then
 (if fits (a5 - 1) then (if 0 ≤ (a5 - 1) ∧ (a5 - 1) < (data5.length : Int) then
 (Option.bind (data5[(a5 - 1).toNat]?) fun e =>
 (if 0 ≤ pivot2 ∧ pivot2 < (data5.length : Int) then
 (Option.bind (data5[pivot2.toNat]?) fun e2 =>
 (Option.bind (i_SegOf_1_m N e.1 e.2.1 e.2.2 e2.1 e2.2.1 e2.2.2) fun r7 =>
 (bif (!(decide (r7 < 0))) then
 (Option.bind (k_slices_partitionEqualCmpFunc_419_m N data5 a5 b5 pivot2 ()) fun r8 =>
 (go (r8.2, r8.1, b5, limit5, (), wasBalanced4, wasPartitioned4)))
 else
 (Option.bind (k_slices_partitionCmpFunc_912_m N data5 a5 b5 pivot2 ()) fun r9 =>
 (if fits (r9.1 - a5) then (if fits (b5 - r9.1) then (if 8 ≠ 0 then
 (if fits (length3.tdiv 8) then (bif (decide ((r9.1 - a5) < (b5 - r9.1))) then
 (Option.bind (k_slices_pdqsortCmpFunc_733_m N D r9.2.2 a5 r9.1 limit5 ()) fun r10 =>
 (if fits (r9.1 + 1) then (go (r10, (r9.1 + 1), b5, limit5, (), (decide ((length3.tdiv 8) ≤ (r9.1 - a5))), r9.2.1)) else none))
 else
 (if fits (r9.1 + 1) then (Option.bind (k_slices_pdqsortCmpFunc_733_m N D r9.2.2 (r9.1 + 1) b5 limit5 ()) fun r11 =>
 (go (r11, a5, r9.1, limit5, (), (decide ((length3.tdiv 8) ≤ (b5 - r9.1))), r9.2.1))) else none)) else none)
 else none) else none) else none)))))
 else none))
 else none) else none)
 else
 (Option.bind (k_slices_partitionCmpFunc_912_m N data5 a5 b5 pivot2 ()) fun r12 =>
 (if fits (r12.1 - a5) then (if fits (b5 - r12.1) then (if 8 ≠ 0 then
 (if fits (length3.tdiv 8) then (bif (decide ((r12.1 - a5) < (b5 - r12.1))) then
 (Option.bind (k_slices_pdqsortCmpFunc_733_m N D r12.2.2 a5 r12.1 limit5 ()) fun r13 =>
 (if fits (r12.1 + 1) then (go (r13, (r12.1 + 1), b5, limit5, (), (decide ((length3.tdiv 8) ≤ (r12.1 - a5))), r12.2.1)) else none))
 else
 (if fits (r12.1 + 1) then (Option.bind (k_slices_pdqsortCmpFunc_733_m N D r12.2.2 (r12.1 + 1) b5 limit5 ()) fun r14 =>
 (go (r14, a5, r12.1, limit5, (), (decide ((length3.tdiv 8) ≤ (b5 - r12.1))), r12.2.1))) else none)) else none)
 else none) else none) else none)))) fun J3 =>
 (bif wasBalanced3 then
 (bif wasPartitioned3 then
 (bif (decide (hint = 1)) then
 (Option.bind (k_slices_partialInsertionSortCmpFunc_222_m N data4 a4 b4 ()) fun r6 =>
 (bif r6.1 then
 (some r6.2)
 else
 (J3 (r6.2, a4, b4, limit4, (), wasBalanced3, wasPartitioned3, length2, pivot))))
 else
 (J3 (data4, a4, b4, limit4, (), wasBalanced3, wasPartitioned3, length2, pivot)))
 else
 (J3 (data4, a4, b4, limit4, (), wasBalanced3, wasPartitioned3, length2, pivot)))
 else
 (J3 (data4, a4, b4, limit4, (), wasBalanced3, wasPartitioned3, length2, pivot))))) fun J2 =>
 (bif (decide (r4.2.1 = 2)) then
 (Option.bind (k_slices_reverseRangeCmpFunc_751_m N r4.2.2 a3 b3 ()) fun r5 =>
 (if fits (b3 - 1) then (if fits (r4.1 - a3) then (if fits ((b3 - 1) - (r4.1 - a3)) then (J2 (r5, a3, b3, limit3, (), wasBalanced2, wasPartitioned2, length, ((b3 - 1) - (r4.1 - a3)), 1)) else none) else none) else none))
 else
 (J2 (r4.2.2, a3, b3, limit3, (), wasBalanced2, wasPartitioned2, length, r4.1, r4.2.1)))))) fun J =>
 (bif (!wasBalanced) then
 (Option.bind (k_slices_breakPatternsCmpFunc_906_m N data2 a2 b2 ()) fun r3 =>
 (if fits (limit2 - 1) then (J (r3, a2, b2, (limit2 - 1), (), wasBalanced, wasPartitioned, (b2 - a2))) else none))
 else
 (J (data2, a2, b2, limit2, (), wasBalanced, wasPartitioned, (b2 - a2))))))) else none)) N (data, a, b, limit, (), true, true))
def k_slices_pdqsortCmpFunc_733_M (N D : Nat) : Model := ⟨k_slices_pdqsortCmpFunc_733_arg, k_slices_pdqsortCmpFunc_733_ret, fun a => k_slices_pdqsortCmpFunc_733_m N D a.1 a.2.1 a.2.2.1 a.2.2.2.1 a.2.2.2.2⟩
set_option maxRecDepth 1000000 in
theorem k_slices_pdqsortCmpFunc_733_step (N D : Nat) (ih : ModelOk Tryz.prog 100 (k_slices_pdqsortCmpFunc_733_M N D)) : ModelOk Tryz.prog 100 (k_slices_pdqsortCmpFunc_733_M N (D + 1)) :=
  modelOk_of (E := mkEnv [(100, k_slices_pdqsortCmpFunc_733_M N D), (120, k_slices_insertionSortCmpFunc_564_M N), (121, k_slices_heapSortCmpFunc_198_M N), (122, k_slices_breakPatternsCmpFunc_906_M N), (123, k_slices_choosePivotCmpFunc_68_M N), (124, k_slices_reverseRangeCmpFunc_751_M N), (125, k_slices_partialInsertionSortCmpFunc_222_M N), (68, i_SegOf_1_M N), (126, k_slices_partitionEqualCmpFunc_419_M N), (127, k_slices_partitionCmpFunc_912_M N)] [] [800000]) (mkEnv_ok (fnsOk_cons ih (fnsOk_cons (k_slices_insertionSortCmpFunc_564_ok N) (fnsOk_cons (k_slices_heapSortCmpFunc_198_ok N) (fnsOk_cons (k_slices_breakPatternsCmpFunc_906_ok N) (fnsOk_cons (k_slices_choosePivotCmpFunc_68_ok N) (fnsOk_cons (k_slices_reverseRangeCmpFunc_751_ok N) (fnsOk_cons (k_slices_partialInsertionSortCmpFunc_222_ok N) (fnsOk_cons (i_SegOf_1_ok N) (fnsOk_cons (k_slices_partitionEqualCmpFunc_419_ok N) (fnsOk_cons (k_slices_partitionCmpFunc_912_ok N) fnsOk_nil)))))))))) _ _) Tryz.func100 (by kernel_rfl) rfl N k_slices_pdqsortCmpFunc_733_h (k_slices_pdqsortCmpFunc_733_M N (D + 1)) (by kernel_rfl) (by kernel_rfl) (fun a => by kernel_rfl)
theorem k_slices_pdqsortCmpFunc_733_ok (N : Nat) : ∀ D, ModelOk Tryz.prog 100 (k_slices_pdqsortCmpFunc_733_M N D)
  | 0 => modelOk_none ⟨_, Tryz.func100, by decide, by kernel_rfl⟩ _ (fun a => rfl)
  | D + 1 => k_slices_pdqsortCmpFunc_733_step N D (k_slices_pdqsortCmpFunc_733_ok N D)
/-! slices.SortFunc[[]loop.example/fossick/impl.Entry,loop.example/fossick/impl.Entry] -/
def k_slices_SortFunc_105_arg : Sh := ⟨[.mtk 800000 (.pair .str (.pair .str (.sl (.pair (.int .i64) (.sl (.int .i64)))))) 66 false, .clo 68 []], []⟩
def k_slices_SortFunc_105_ret : Sh := ⟨[.tup [], .mtk 800000 (.pair .str (.pair .str (.sl (.pair (.int .i64) (.sl (.int .i64)))))) 66 false], []⟩
def k_slices_SortFunc_105_h : Hint := .no
def k_slices_SortFunc_105_m (N : Nat) (x : List ((List UInt8) × (List UInt8) × (List (Int × (List Int))))) (cmp : Unit) : Option ((List ((List UInt8) × (List UInt8) × (List (Int × (List Int)))))) :=
 (Option.bind (k_math_bits_Len_m N (IntKind.u64.wrap (x.length : Int))) fun r =>
 (Option.bind (k_slices_pdqsortCmpFunc_733_m N N x 0 (x.length : Int) r ()) fun r2 =>
 (some r2)))
def k_slices_SortFunc_105_M (N : Nat) : Model := ⟨k_slices_SortFunc_105_arg, k_slices_SortFunc_105_ret, fun a => k_slices_SortFunc_105_m N a.1 a.2⟩
set_option maxRecDepth 1000000 in
theorem k_slices_SortFunc_105_ok (N : Nat) : ModelOk Tryz.prog 67 (k_slices_SortFunc_105_M N) :=
  modelOk_of (E := mkEnv [(101, k_math_bits_Len_M N), (100, k_slices_pdqsortCmpFunc_733_M N N)] [] [800000]) (mkEnv_ok (fnsOk_cons (k_math_bits_Len_ok N) (fnsOk_cons (k_slices_pdqsortCmpFunc_733_ok N N) fnsOk_nil)) _ _) Tryz.func67 (by kernel_rfl) rfl N k_slices_SortFunc_105_h (k_slices_SortFunc_105_M N) (by kernel_rfl) (by kernel_rfl) (fun a => by kernel_rfl)
/-! loop.example/fossick/impl.SegOf -/
def i_SegOf_arg : Sh := ⟨[.agg [.pv (.sl .str), .pv (.sl (.pair (.sl .str) .str))], .pv (.sl (.pair (.int .i64) (.pair (.sl (.pair .str .str)) (.sl (.pair .str (.int .i64))))))], []⟩
def i_SegOf_ret : Sh := ⟨[.agg [.pv (.sl (.pair (.int .i64) (.pair (.sl (.pair .str .str)) (.sl (.pair .str (.int .i64)))))), .own 1 (.pair .str (.pair .str (.sl (.pair (.int .i64) (.sl (.int .i64)))))) 66 false]], []⟩
def i_SegOf_s1 : Sh := ⟨.dead :: .dead :: .box 2 0 :: .dead :: .box 4 0 :: .box 5 0 :: dz 19 (.pv Y0 :: .pv (.int .i64) :: .pv (.int .i64) :: dz 32 []), [(2, false, [.pv (.sl .str), .pv Y11]), (4, false, [.nils, .nils]), (5, false, [.pv Y0, .tre 700501 Y3 66])]⟩
def i_SegOf_s2 : Sh := ⟨.dead :: .dead :: .box 2 0 :: .dead :: .box 4 0 :: .box 5 0 :: .dead :: .box 7 0 :: dz 17 (.pv Y0 :: .pv (.int .i64) :: .pv (.int .i64) :: dz 4 (.pv Y13 :: .pv (.int .i64) :: .pv (.int .i64) :: dz 25 [])), [(2, false, [.pv (.sl .str), .pv Y11]), (4, false, [.nils, .nils]), (5, false, [.pv Y0, .tre 700501 Y3 66]), (7, false, [.pv (.int .i64), .pv Y13, .pv Y10])]⟩
def i_SegOf_s3 : Sh := ⟨.dead :: .dead :: .box 2 0 :: .dead :: .box 4 0 :: .box 5 0 :: .dead :: .box 7 0 :: .dead :: .box 9 0 :: dz 15 (.pv Y0 :: .pv (.int .i64) :: .pv (.int .i64) :: dz 4 (.pv Y13 :: .pv (.int .i64) :: .pv (.int .i64) :: dz 6 (.own 600041 Y12 110 true :: .pv (.int .i64) :: .pv (.int .i64) :: dz 16 []))), [(2, false, [.pv (.sl .str), .pv Y11]), (4, false, [.nils, .nils]), (5, false, [.pv Y0, .tre 700501 Y3 66]), (7, false, [.pv (.int .i64), .pv Y13, .pv Y10]), (9, false, [.pv .str, .pv .str])]⟩
def i_SegOf_h : Hint := (.seq .no (.seq .no (.seq .no (.seq (.seq .no (.block (.loop i_SegOf_s1 (.seq .no (.seq .no (.seq (.block (.seq .no (.seq .no (.block (.loop i_SegOf_s2 (.seq .no (.seq .no (.seq (.block (.seq .no (.seq .no (.block (.loop i_SegOf_s3 .no))))) .no)))))))) .no)))))) .no))))
def i_SegOf_m (N : Nat) (c : List (List UInt8)) (c2 : List ((List (List UInt8)) × (List UInt8))) (docs : List (Int × (List ((List UInt8) × (List UInt8))) × (List ((List UInt8) × Int)))) : Option ((List (Int × (List ((List UInt8) × (List UInt8))) × (List ((List UInt8) × Int)))) × (List ((List UInt8) × (List UInt8) × (List (Int × (List Int)))))) :=
 (Option.bind (i_ConfOk_m N c c2) fun r =>
 (bif (!r) then
 (some (([] : List (Int × (List ((List UInt8) × (List UInt8))) × (List ((List UInt8) × Int)))), ([] : List ((List UInt8) × (List UInt8) × (List (Int × (List Int)))))))
 else
 (Option.bind (i_DocsOk_m N docs) fun r2 =>
 (bif (!r2) then
 (some (([] : List (Int × (List ((List UInt8) × (List UInt8))) × (List ((List UInt8) × Int)))), ([] : List ((List UInt8) × (List UInt8) × (List (Int × (List Int)))))))
 else
 (Option.bind (i_cloneDocs_m N docs) fun r3 =>
 (iter (fun go (g : (List (Int × (List ((List UInt8) × (List UInt8))) × (List ((List UInt8) × Int)))) × Int × Int × (List (List UInt8)) × (List ((List (List UInt8)) × (List UInt8))) × (List (Int × (List ((List UInt8) × (List UInt8))) × (List ((List UInt8) × Int)))) × (List ((List UInt8) × (List UInt8) × (List (Int × (List Int)))))) =>
 match g with
 | (t25, t26, t27, c3, c4, s, s2) =>
 (bif (decide (t27 < t26)) then
 (Option.bind (idx t25 t27) fun e =>
 (iter (fun go2 (g : (List (Int × (List ((List UInt8) × (List UInt8))) × (List ((List UInt8) × Int)))) × Int × Int × (List ((List UInt8) × (List UInt8))) × Int × Int × (List (List UInt8)) × (List ((List (List UInt8)) × (List UInt8))) × (List (Int × (List ((List UInt8) × (List UInt8))) × (List ((List UInt8) × Int)))) × (List ((List UInt8) × (List UInt8) × (List (Int × (List Int))))) × Int × (List ((List UInt8) × (List UInt8))) × (List ((List UInt8) × Int))) =>
 match g with
 | (t252, t262, t272, t32, t33, t34, c5, c6, s3, s4, d, d2, d3) =>
 (bif (decide (t34 < t33)) then
 (Option.bind (idx t32 t34) fun e2 =>
 (Option.bind (i_TermsOf_m N c5 c6 e2.2) fun r4 =>
 (iter (fun go3 (g : (List (Int × (List ((List UInt8) × (List UInt8))) × (List ((List UInt8) × Int)))) × Int × Int × (List ((List UInt8) × (List UInt8))) × Int × Int × (List ((List UInt8) × Int)) × Int × Int × (List (List UInt8)) × (List ((List (List UInt8)) × (List UInt8))) × (List (Int × (List ((List UInt8) × (List UInt8))) × (List ((List UInt8) × Int)))) × (List ((List UInt8) × (List UInt8) × (List (Int × (List Int))))) × Int × (List ((List UInt8) × (List UInt8))) × (List ((List UInt8) × Int)) × (List UInt8) × (List UInt8)) =>
 match g with
 | (t253, t263, t273, t322, t332, t342, t41, t42, t43, c7, c8, s5, s6, d4, d5, d6, f, f2) =>
 (bif (decide (t43 < t42)) then
 (Option.bind (idx t41 t43) fun e3 =>
 (Option.bind (i_Seg_put_m N f e3.1 e3.2 d4 s5 s6) fun r5 =>
 (if fits (t43 + 1) then (go3 (t253, t263, t273, t322, t332, t342, t41, t42, (t43 + 1), c7, c8, r5.1, r5.2, d4, d5, d6, f, f2)) else none)))
 else
 (if fits (t342 + 1) then (go2 (t253, t263, t273, t322, t332, (t342 + 1), c7, c8, s5, s6, d4, d5, d6)) else none))) N (t252, t262, t272, t32, t33, t34, r4, (r4.length : Int), 0, c5, c6, s3, s4, d, d2, d3, e2.1, e2.2))))
 else
 (if fits (t272 + 1) then (go (t252, t262, (t272 + 1), c5, c6, s3, s4)) else none))) N (t25, t26, t27, e.2.1, (e.2.1.length : Int), 0, c3, c4, s, s2, e.1, e.2.1, e.2.2)))
 else
 (Option.bind (k_slices_SortFunc_105_m N s2 ()) fun r6 =>
 (some (s, r6))))) N (docs, (docs.length : Int), 0, c, c2, r3, ([] : List ((List UInt8) × (List UInt8) × (List (Int × (List Int))))))))))))
def i_SegOf_M (N : Nat) : Model := ⟨i_SegOf_arg, i_SegOf_ret, fun a => i_SegOf_m N a.1 a.2.1 a.2.2⟩
set_option maxRecDepth 1000000 in
theorem i_SegOf_ok (N : Nat) : ModelOk Tryz.prog 34 (i_SegOf_M N) :=
  modelOk_of (E := mkEnv [(31, i_ConfOk_M N), (32, i_DocsOk_M N), (64, i_cloneDocs_M N), (65, i_TermsOf_M N), (66, i_Seg_put_M N), (67, k_slices_SortFunc_105_M N)] [23] [] [23, 57]) (mkEnv_ok (fnsOk_cons (i_ConfOk_ok N) (fnsOk_cons (i_DocsOk_ok N) (fnsOk_cons (i_cloneDocs_ok N) (fnsOk_cons (i_TermsOf_ok N) (fnsOk_cons (i_Seg_put_ok N) (fnsOk_cons (k_slices_SortFunc_105_ok N) fnsOk_nil)))))) _ _ _) Tryz.func34 (by kernel_rfl) rfl N i_SegOf_h (i_SegOf_M N) (by kernel_rfl) (by kernel_rfl) (fun a => by kernel_rfl)
/-! slices.Equal[[]int,int] -/
def k_slices_Equal_193_arg : Sh := ⟨[.pv (.sl (.int .i64)), .pv (.sl (.int .i64))], []⟩
def k_slices_Equal_193_ret : Sh := ⟨[.pv .bool], []⟩
def k_slices_Equal_193_s1 : Sh := ⟨.pv Y16 :: .pv Y16 :: dz 10 (.pv (.int .i64) :: .pv (.int .i64) :: dz 12 []), []⟩
def k_slices_Equal_193_h : Hint := (.seq .no (.seq .no (.seq (.seq .no (.block (.loop k_slices_Equal_193_s1 .no))) .no)))
def k_slices_Equal_193_m (N : Nat) (s1 : List Int) (s2 : List Int) : Option (Bool) :=
 (bif (!decide ((s1.length : Int) = (s2.length : Int))) then
 (some false)
 else
 (iter (fun go (g : (List Int) × (List Int) × Int × Int) =>
 match g with
 | (s12, s22, t12, t13) =>
 (bif (decide (t13 < t12)) then
 (Option.bind (idx s12 t13) fun e =>
 (Option.bind (idx s22 t13) fun e2 =>
 (bif (!decide (e = e2)) then
 (some false)
 else
 (if fits (t13 + 1) then (go (s12, s22, t12, (t13 + 1))) else none))))
 else
 (some true))) N (s1, s2, (s1.length : Int), 0)))
def k_slices_Equal_193_M (N : Nat) : Model := ⟨k_slices_Equal_193_arg, k_slices_Equal_193_ret, fun a => k_slices_Equal_193_m N a.1 a.2⟩
set_option maxRecDepth 1000000 in
theorem k_slices_Equal_193_ok (N : Nat) : ModelOk Tryz.prog 103 (k_slices_Equal_193_M N) :=
  modelOk_of (E := mkEnv [] [] []) (mkEnv_ok fnsOk_nil _ _) Tryz.func103 (by kernel_rfl) rfl N k_slices_Equal_193_h (k_slices_Equal_193_M N) (by kernel_rfl) (by kernel_rfl) (fun a => by kernel_rfl)
/-! loop.example/fossick/impl.samePost -/
def i_samePost_arg : Sh := ⟨[.agg [.pv (.int .i64), .pv (.sl (.int .i64))], .agg [.pv (.int .i64), .pv (.sl (.int .i64))]], []⟩
def i_samePost_ret : Sh := ⟨[.pv .bool], []⟩
def i_samePost_h : Hint := .no
def i_samePost_m (N : Nat) (a : Int) (a2 : List Int) (b : Int) (b2 : List Int) : Option (Bool) :=
 (bif (decide (a = b)) then
 (Option.bind (k_slices_Equal_193_m N a2 b2) fun r =>
 (some r))
 else
 (some false))
def i_samePost_M (N : Nat) : Model := ⟨i_samePost_arg, i_samePost_ret, fun a => i_samePost_m N a.1 a.2.1 a.2.2.1 a.2.2.2⟩
set_option maxRecDepth 1000000 in
theorem i_samePost_ok (N : Nat) : ModelOk Tryz.prog 72 (i_samePost_M N) :=
  modelOk_of (E := mkEnv [(103, k_slices_Equal_193_M N)] [] []) (mkEnv_ok (fnsOk_cons (k_slices_Equal_193_ok N) fnsOk_nil) _ _) Tryz.func72 (by kernel_rfl) rfl N i_samePost_h (i_samePost_M N) (by kernel_rfl) (by kernel_rfl) (fun a => by kernel_rfl)
/-! slices.EqualFunc[[]loop.example/fossick/impl.Post,[]loop.example/fossick/impl.Post,loop.example/fossick/impl.Post,loop.example/fossick/impl.Post] -/
def k_slices_EqualFunc_520_arg : Sh := ⟨[.pv (.sl (.pair (.int .i64) (.sl (.int .i64)))), .pv (.sl (.pair (.int .i64) (.sl (.int .i64)))), .clo 72 []], []⟩
def k_slices_EqualFunc_520_ret : Sh := ⟨[.pv .bool], []⟩
def k_slices_EqualFunc_520_s1 : Sh := ⟨.dead :: .pv Y8 :: .clo 72 [] :: dz 12 (.pv Y8 :: .pv (.int .i64) :: .pv (.int .i64) :: dz 14 []), []⟩
def k_slices_EqualFunc_520_h : Hint := (.seq .no (.seq .no (.seq (.seq .no (.block (.loop k_slices_EqualFunc_520_s1 .no))) .no)))
def k_slices_EqualFunc_520_m (N : Nat) (s1 : List (Int × (List Int))) (s2 : List (Int × (List Int))) (eq : Unit) : Option (Bool) :=
 (bif (!decide ((s1.length : Int) = (s2.length : Int))) then
 (some false)
 else
 (iter (fun go (g : (List (Int × (List Int))) × Unit × (List (Int × (List Int))) × Int × Int) =>
 match g with
 | (s22, eq2, t15, t16, t17) =>
 (bif (decide (t17 < t16)) then
 (Option.bind (idx t15 t17) fun e =>
 (Option.bind (idx s22 t17) fun e2 =>
 (Option.bind (i_samePost_m N e.1 e.2 e2.1 e2.2) fun r =>
 (bif (!r) then
 (some false)
 else
 (if fits (t17 + 1) then (go (s22, (), t15, t16, (t17 + 1))) else none)))))
 else
 (some true))) N (s2, (), s1, (s1.length : Int), 0)))
def k_slices_EqualFunc_520_M (N : Nat) : Model := ⟨k_slices_EqualFunc_520_arg, k_slices_EqualFunc_520_ret, fun a => k_slices_EqualFunc_520_m N a.1 a.2.1 a.2.2⟩
set_option maxRecDepth 1000000 in
theorem k_slices_EqualFunc_520_ok (N : Nat) : ModelOk Tryz.prog 71 (k_slices_EqualFunc_520_M N) :=
  modelOk_of (E := mkEnv [(72, i_samePost_M N)] [] []) (mkEnv_ok (fnsOk_cons (i_samePost_ok N) fnsOk_nil) _ _) Tryz.func71 (by kernel_rfl) rfl N k_slices_EqualFunc_520_h (k_slices_EqualFunc_520_M N) (by kernel_rfl) (by kernel_rfl) (fun a => by kernel_rfl)
/-! loop.example/fossick/impl.sameEntry -/
def i_sameEntry_arg : Sh := ⟨[.agg [.pv .str, .pv .str, .pv (.sl (.pair (.int .i64) (.sl (.int .i64))))], .agg [.pv .str, .pv .str, .pv (.sl (.pair (.int .i64) (.sl (.int .i64))))]], []⟩
def i_sameEntry_ret : Sh := ⟨[.pv .bool], []⟩
def i_sameEntry_h : Hint := .no
def i_sameEntry_m (N : Nat) (a : List UInt8) (a2 : List UInt8) (a3 : List (Int × (List Int))) (b : List UInt8) (b2 : List UInt8) (b3 : List (Int × (List Int))) : Option (Bool) :=
 (bif (decide (a = b)) then
 (bif (decide (a2 = b2)) then
 (Option.bind (k_slices_EqualFunc_520_m N a3 b3 ()) fun r =>
 (some r))
 else
 (some false))
 else
 (some false))
def i_sameEntry_M (N : Nat) : Model := ⟨i_sameEntry_arg, i_sameEntry_ret, fun a => i_sameEntry_m N a.1 a.2.1 a.2.2.1 a.2.2.2.1 a.2.2.2.2.1 a.2.2.2.2.2⟩
set_option maxRecDepth 1000000 in
theorem i_sameEntry_ok (N : Nat) : ModelOk Tryz.prog 35 (i_sameEntry_M N) :=
  modelOk_of (E := mkEnv [(71, k_slices_EqualFunc_520_M N)] [] []) (mkEnv_ok (fnsOk_cons (k_slices_EqualFunc_520_ok N) fnsOk_nil) _ _) Tryz.func35 (by kernel_rfl) rfl N i_sameEntry_h (i_sameEntry_M N) (by kernel_rfl) (by kernel_rfl) (fun a => by kernel_rfl)
/-! slices.EqualFunc[[]loop.example/fossick/impl.Entry,[]loop.example/fossick/impl.Entry,loop.example/fossick/impl.Entry,loop.example/fossick/impl.Entry] -/
def k_slices_EqualFunc_948_arg : Sh := ⟨[.pv (.sl (.pair .str (.pair .str (.sl (.pair (.int .i64) (.sl (.int .i64))))))), .pv (.sl (.pair .str (.pair .str (.sl (.pair (.int .i64) (.sl (.int .i64))))))), .clo 35 []], []⟩
def k_slices_EqualFunc_948_ret : Sh := ⟨[.pv .bool], []⟩
def k_slices_EqualFunc_948_s1 : Sh := ⟨.dead :: .pv Y2 :: .clo 35 [] :: dz 12 (.pv Y2 :: .pv (.int .i64) :: .pv (.int .i64) :: dz 14 []), []⟩
def k_slices_EqualFunc_948_h : Hint := (.seq .no (.seq .no (.seq (.seq .no (.block (.loop k_slices_EqualFunc_948_s1 .no))) .no)))
def k_slices_EqualFunc_948_m (N : Nat) (s1 : List ((List UInt8) × (List UInt8) × (List (Int × (List Int))))) (s2 : List ((List UInt8) × (List UInt8) × (List (Int × (List Int))))) (eq : Unit) : Option (Bool) :=
 (bif (!decide ((s1.length : Int) = (s2.length : Int))) then
 (some false)
 else
 (iter (fun go (g : (List ((List UInt8) × (List UInt8) × (List (Int × (List Int))))) × Unit × (List ((List UInt8) × (List UInt8) × (List (Int × (List Int))))) × Int × Int) =>
 match g with
 | (s22, eq2, t15, t16, t17) =>
 (bif (decide (t17 < t16)) then
 (Option.bind (idx t15 t17) fun e =>
 (Option.bind (idx s22 t17) fun e2 =>
 (Option.bind (i_sameEntry_m N e.1 e.2.1 e.2.2 e2.1 e2.2.1 e2.2.2) fun r =>
 (bif (!r) then
 (some false)
 else
 (if fits (t17 + 1) then (go (s22, (), t15, t16, (t17 + 1))) else none)))))
 else
 (some true))) N (s2, (), s1, (s1.length : Int), 0)))
def k_slices_EqualFunc_948_M (N : Nat) : Model := ⟨k_slices_EqualFunc_948_arg, k_slices_EqualFunc_948_ret, fun a => k_slices_EqualFunc_948_m N a.1 a.2.1 a.2.2⟩
set_option maxRecDepth 1000000 in
theorem k_slices_EqualFunc_948_ok (N : Nat) : ModelOk Tryz.prog 33 (k_slices_EqualFunc_948_M N) :=
  modelOk_of (E := mkEnv [(35, i_sameEntry_M N)] [] []) (mkEnv_ok (fnsOk_cons (i_sameEntry_ok N) fnsOk_nil) _ _) Tryz.func33 (by kernel_rfl) rfl N k_slices_EqualFunc_948_h (k_slices_EqualFunc_948_M N) (by kernel_rfl) (by kernel_rfl) (fun a => by kernel_rfl)
/-! loop.example/fossick/impl.SegOk -/
def i_SegOk_arg : Sh := ⟨[.agg [.pv (.sl .str), .pv (.sl (.pair (.sl .str) .str))], .agg [.pv (.sl (.pair (.int .i64) (.pair (.sl (.pair .str .str)) (.sl (.pair .str (.int .i64)))))), .pv (.sl (.pair .str (.pair .str (.sl (.pair (.int .i64) (.sl (.int .i64)))))))]], []⟩
def i_SegOk_ret : Sh := ⟨[.pv .bool], []⟩
def i_SegOk_h : Hint := .no
def i_SegOk_m (N : Nat) (c : List (List UInt8)) (c2 : List ((List (List UInt8)) × (List UInt8))) (s : List (Int × (List ((List UInt8) × (List UInt8))) × (List ((List UInt8) × Int)))) (s2 : List ((List UInt8) × (List UInt8) × (List (Int × (List Int))))) : Option (Bool) :=
 (Option.bind (i_ConfOk_m N c c2) fun r =>
 (bif (!r) then
 (some false)
 else
 (Option.bind (i_DocsOk_m N s) fun r2 =>
 (bif (!r2) then
 (some false)
 else
 (Option.bind (i_SegOf_m N c c2 s) fun r3 =>
 (Option.bind (k_slices_EqualFunc_948_m N r3.2 s2 ()) fun r4 =>
 (some r4)))))))
def i_SegOk_M (N : Nat) : Model := ⟨i_SegOk_arg, i_SegOk_ret, fun a => i_SegOk_m N a.1 a.2.1 a.2.2.1 a.2.2.2⟩
set_option maxRecDepth 1000000 in
theorem i_SegOk_ok (N : Nat) : ModelOk Tryz.prog 8 (i_SegOk_M N) :=
  modelOk_of (E := mkEnv [(31, i_ConfOk_M N), (32, i_DocsOk_M N), (34, i_SegOf_M N), (33, k_slices_EqualFunc_948_M N)] [] []) (mkEnv_ok (fnsOk_cons (i_ConfOk_ok N) (fnsOk_cons (i_DocsOk_ok N) (fnsOk_cons (i_SegOf_ok N) (fnsOk_cons (k_slices_EqualFunc_948_ok N) fnsOk_nil)))) _ _) Tryz.func8 (by kernel_rfl) rfl N i_SegOk_h (i_SegOk_M N) (by kernel_rfl) (by kernel_rfl) (fun a => by kernel_rfl)
/-! (*loop.example/fossick/impl.Seg).terms -/
def i_Seg_terms_arg : Sh := ⟨[.ptr (.pair (.sl (.pair (.int .i64) (.pair (.sl (.pair .str .str)) (.sl (.pair .str (.int .i64)))))) (.sl (.pair .str (.pair .str (.sl (.pair (.int .i64) (.sl (.int .i64)))))))), .pv .str], []⟩
def i_Seg_terms_ret : Sh := ⟨[.own 1 .str 9 true], []⟩
def i_Seg_terms_s1 : Sh := ⟨.dead :: .pv .str :: dz 3 (.own 600005 .str 9 true :: dz 6 (.pv Y2 :: .pv (.int .i64) :: .pv (.int .i64) :: dz 14 [])), []⟩
def i_Seg_terms_h : Hint := (.seq .no (.seq .no (.seq (.seq .no (.block (.loop i_Seg_terms_s1 .no))) .no)))
def i_Seg_terms_m (N : Nat) (s : (List (Int × (List ((List UInt8) × (List UInt8))) × (List ((List UInt8) × Int)))) × (List ((List UInt8) × (List UInt8) × (List (Int × (List Int)))))) (field : List UInt8) : Option ((List (List UInt8))) :=
 (iter (fun go (g : (List UInt8) × (List (List UInt8)) × (List ((List UInt8) × (List UInt8) × (List (Int × (List Int))))) × Int × Int) =>
 match g with
 | (field2, out, t12, t13, t14) =>
 (bif (decide (t14 < t13)) then
 (Option.bind (idx t12 t14) fun e =>
 (bif (decide (e.1 = field2)) then
 (if room out.length ([e.2.1] : List (List UInt8)).length 16 then
 (if fits (t14 + 1) then (go (field2, (out ++ ([e.2.1] : List (List UInt8))), t12, t13, (t14 + 1))) else none)
 else none)
 else
 (if fits (t14 + 1) then (go (field2, out, t12, t13, (t14 + 1))) else none)))
 else
 (some out))) N (field, ([] : List (List UInt8)), s.2, (s.2.length : Int), 0))
def i_Seg_terms_M (N : Nat) : Model := ⟨i_Seg_terms_arg, i_Seg_terms_ret, fun a => i_Seg_terms_m N a.1 a.2⟩
set_option maxRecDepth 1000000 in
theorem i_Seg_terms_ok (N : Nat) : ModelOk Tryz.prog 25 (i_Seg_terms_M N) :=
  modelOk_of (E := mkEnv [] [] []) (mkEnv_ok fnsOk_nil _ _) Tryz.func25 (by kernel_rfl) rfl N i_Seg_terms_h (i_Seg_terms_M N) (by kernel_rfl) (by kernel_rfl) (fun a => by kernel_rfl)
/-! loop.example/fossick/impl.NearFar -/
def i_NearFar_arg : Sh := ⟨[.pv .str, .pv .str], []⟩
def i_NearFar_ret : Sh := ⟨[.pv (.int .i64)], []⟩
def i_NearFar_s1 : Sh := ⟨.pv .str :: .pv .str :: dz 3 (.mtk 600005 (.int .i64) 3 true :: dz 18 (.pv (.int .i64) :: .pv (.int .i64) :: dz 62 [])), []⟩
def i_NearFar_s2 : Sh := ⟨.pv .str :: .pv .str :: dz 3 (.mtk 600005 (.int .i64) 3 true :: .dead :: .pv (.int .i64) :: dz 80 []), []⟩
def i_NearFar_s3 : Sh := ⟨.pv .str :: .pv .str :: dz 3 (.mtk 600005 (.int .i64) 3 true :: .dead :: .pv (.int .i64) :: .pv (.int .i64) :: .pv (.int .i64) :: dz 78 []), []⟩
def i_NearFar_s4 : Sh := ⟨.pv .str :: .pv .str :: dz 3 (.mtk 600005 (.int .i64) 3 true :: .dead :: .pv (.int .i64) :: .dead :: .pv (.int .i64) :: .pv (.int .i64) :: dz 77 []), []⟩
def i_NearFar_s5 : Sh := ⟨.pv .str :: .pv .str :: dz 3 (.mtk 22 (.int .i64) 3 true :: dz 82 []), []⟩
def i_NearFar_s6 : Sh := ⟨.pv .str :: .pv .str :: dz 86 [], []⟩
def i_NearFar_h : Hint := (.seq .no (.meet i_NearFar_s6 .no (.meet i_NearFar_s5 .no (.seq (.seq .no (.block (.loop i_NearFar_s1 .no))) (.seq (.seq .no (.block (.loop i_NearFar_s2 (.seq .no (.seq (.block (.seq .no (.seq .no (.seq .no (.block (.loop i_NearFar_s3 (.seq .no (.seq (.block (.seq .no (.meet i_NearFar_s4 .no .no))) .no)))))))) .no))))) .no)))))
def i_NearFar_m (N : Nat) (a : List UInt8) (b : List UInt8) : Option (Int) :=
 (meet (fun (g : (List UInt8) × (List UInt8)) =>
 match g with
 | (a2, b2) =>
 (meet (fun (g : (List UInt8) × (List UInt8) × (List Int)) =>
 match g with
 | (a3, b3, row) =>
 (iter (fun go (g : (List UInt8) × (List UInt8) × (List Int) × Int × Int) =>
 match g with
 | (a4, b4, row2, t24, t25) =>
 (bif (decide (t25 < t24)) then
 (if 0 ≤ t25 ∧ t25 < (row2.length : Int) then
 (Option.bind (row2[t25.toNat]?) fun e =>
 (if fits (t25 + 1) then (go (a4, b4, (row2.set t25.toNat t25), t24, (t25 + 1))) else none))
 else none)
 else
 (iter (fun go2 (g : (List UInt8) × (List UInt8) × (List Int) × Int) =>
 match g with
 | (a5, b5, row3, i) =>
 (bif (decide (i ≤ (a5.length : Int))) then
 (if 0 ≤ (0 : Int) ∧ (0 : Int) < (row3.length : Int) then
 (Option.bind (row3[(0 : Int).toNat]?) fun e2 =>
 (if 0 ≤ (0 : Int) ∧ (0 : Int) < (row3.length : Int) then
 (Option.bind (row3[(0 : Int).toNat]?) fun e3 =>
 (iter (fun go3 (g : (List UInt8) × (List UInt8) × (List Int) × Int × Int × Int) =>
 match g with
 | (a6, b6, row4, i2, corner, j) =>
 (bif (decide (j ≤ (b6.length : Int))) then
 (meet (fun (g : (List UInt8) × (List UInt8) × (List Int) × Int × Int × Int) =>
 match g with
 | (a7, b7, row5, i3, j2, cost) =>
 (if 0 ≤ j2 ∧ j2 < (row5.length : Int) then
 (Option.bind (row5[j2.toNat]?) fun e4 =>
 (if 0 ≤ j2 ∧ j2 < (row5.length : Int) then
 (Option.bind (row5[j2.toNat]?) fun e5 =>
 (if fits (e5 + 1) then (if fits (j2 - 1) then (if 0 ≤ (j2 - 1) ∧ (j2 - 1) < (row5.length : Int) then
 (Option.bind (row5[(j2 - 1).toNat]?) fun e6 =>
 (if fits (e6 + 1) then (if 0 ≤ j2 ∧ j2 < (row5.length : Int) then
 (Option.bind (row5[j2.toNat]?) fun e7 =>
 (if fits (j2 + 1) then (go3 (a7, b7, (row5.set j2.toNat (if (e6 + 1) < (if (e5 + 1) < cost then (e5 + 1) else cost) then (e6 + 1) else (if (e5 + 1) < cost then (e5 + 1) else cost))), i3, e4, (j2 + 1))) else none))
 else none) else none))
 else none) else none) else none))
 else none))
 else none)) fun J3 =>
 (if fits (i2 - 1) then (Option.bind (idx a6 (i2 - 1)) fun c =>
 (if fits (j - 1) then (Option.bind (idx b6 (j - 1)) fun c2 =>
 (bif (!decide ((c.toNat : Int) = (c2.toNat : Int))) then
 (if fits (corner + 1) then (J3 (a6, b6, row4, i2, j, (corner + 1))) else none)
 else
 (J3 (a6, b6, row4, i2, j, corner)))) else none)) else none))
 else
 (if fits (i2 + 1) then (go2 (a6, b6, row4, (i2 + 1))) else none))) N (a5, b5, (row3.set (0 : Int).toNat i), i, e2, 1)))
 else none))
 else none)
 else
 (if 0 ≤ (b5.length : Int) ∧ (b5.length : Int) < (row3.length : Int) then
 (Option.bind (row3[(b5.length : Int).toNat]?) fun e8 =>
 (some e8))
 else none))) N (a4, b4, row2, 1)))) N (a3, b3, row, (row.length : Int), 0))) fun J2 =>
 (if fits ((b2.length : Int) + 1) then (if ((b2.length : Int) + 1) = ((b2.length : Int) + 1) ∧ 0 ≤ ((b2.length : Int) + 1) ∧ ((b2.length : Int) + 1) * 8 ≤ 140737488355328 ∧ ((b2.length : Int) + 1) ≤ 140737488355328 then
 (J2 (a2, b2, (List.replicate ((b2.length : Int) + 1).toNat 0)))
 else none) else none))) fun J =>
 (Option.bind (i_WordOk_m N a) fun r =>
 (bif (!r) then
 (some (-1))
 else
 (Option.bind (i_WordOk_m N b) fun r2 =>
 (bif (!r2) then
 (some (-1))
 else
 (J (a, b)))))))
def i_NearFar_M (N : Nat) : Model := ⟨i_NearFar_arg, i_NearFar_ret, fun a => i_NearFar_m N a.1 a.2⟩
set_option maxRecDepth 1000000 in
theorem i_NearFar_ok (N : Nat) : ModelOk Tryz.prog 12 (i_NearFar_M N) :=
  modelOk_of (E := mkEnv [(9, i_WordOk_M N)] [22] []) (mkEnv_ok (fnsOk_cons (i_WordOk_ok N) fnsOk_nil) _ _) Tryz.func12 (by kernel_rfl) rfl N i_NearFar_h (i_NearFar_M N) (by kernel_rfl) (by kernel_rfl) (fun a => by kernel_rfl)
/-! (*loop.example/fossick/impl.Seg).posts -/
def i_Seg_posts_arg : Sh := ⟨[.ptr (.pair (.sl (.pair (.int .i64) (.pair (.sl (.pair .str .str)) (.sl (.pair .str (.int .i64)))))) (.sl (.pair .str (.pair .str (.sl (.pair (.int .i64) (.sl (.int .i64)))))))), .pv .str, .pv .str], []⟩
def i_Seg_posts_ret : Sh := ⟨[.pv (.sl (.pair (.int .i64) (.sl (.int .i64))))], []⟩
def i_Seg_posts_s1 : Sh := ⟨.dead :: .pv .str :: .pv .str :: dz 9 (.pv Y2 :: .pv (.int .i64) :: .pv (.int .i64) :: dz 16 []), []⟩
def i_Seg_posts_h : Hint := (.seq .no (.seq (.seq .no (.block (.loop i_Seg_posts_s1 .no))) .no))
def i_Seg_posts_m (N : Nat) (s : (List (Int × (List ((List UInt8) × (List UInt8))) × (List ((List UInt8) × Int)))) × (List ((List UInt8) × (List UInt8) × (List (Int × (List Int)))))) (field : List UInt8) (term : List UInt8) : Option ((List (Int × (List Int)))) :=
 (iter (fun go (g : (List UInt8) × (List UInt8) × (List ((List UInt8) × (List UInt8) × (List (Int × (List Int))))) × Int × Int) =>
 match g with
 | (field2, term2, t12, t13, t14) =>
 (bif (decide (t14 < t13)) then
 (Option.bind (idx t12 t14) fun e =>
 (bif (decide (e.1 = field2)) then
 (bif (decide (e.2.1 = term2)) then
 (some e.2.2)
 else
 (if fits (t14 + 1) then (go (field2, term2, t12, t13, (t14 + 1))) else none))
 else
 (if fits (t14 + 1) then (go (field2, term2, t12, t13, (t14 + 1))) else none)))
 else
 (some ([] : List (Int × (List Int)))))) N (field, term, s.2, (s.2.length : Int), 0))
def i_Seg_posts_M (N : Nat) : Model := ⟨i_Seg_posts_arg, i_Seg_posts_ret, fun a => i_Seg_posts_m N a.1 a.2.1 a.2.2⟩
set_option maxRecDepth 1000000 in
theorem i_Seg_posts_ok (N : Nat) : ModelOk Tryz.prog 26 (i_Seg_posts_M N) :=
  modelOk_of (E := mkEnv [] [] []) (mkEnv_ok fnsOk_nil _ _) Tryz.func26 (by kernel_rfl) rfl N i_Seg_posts_h (i_Seg_posts_M N) (by kernel_rfl) (by kernel_rfl) (fun a => by kernel_rfl)
/-! loop.example/fossick/impl.SpellOf -/
def i_SpellOf_arg : Sh := ⟨[.agg [.pv (.sl .str), .pv (.sl (.pair (.sl .str) .str))], .agg [.pv (.sl (.pair (.int .i64) (.pair (.sl (.pair .str .str)) (.sl (.pair .str (.int .i64)))))), .pv (.sl (.pair .str (.pair .str (.sl (.pair (.int .i64) (.sl (.int .i64)))))))], .pv .str, .pv .str], []⟩
def i_SpellOf_ret : Sh := ⟨[.pv .str], []⟩
def i_SpellOf_s1 : Sh := ⟨.dead :: .dead :: .pv .str :: .pv .str :: .dead :: .box 5 0 :: dz 3 (.pv .str :: .pv (.int .i64) :: .pv (.int .i64) :: dz 14 (.own 600026 .str 9 true :: .pv (.int .i64) :: .pv (.int .i64) :: dz 33 [])), [(5, true, [.pv Y0, .pv Y2])]⟩
def i_SpellOf_h : Hint := (.seq .no (.seq .no (.seq .no (.seq (.seq .no (.block (.loop i_SpellOf_s1 .no))) .no))))
def i_SpellOf_m (N : Nat) (c : List (List UInt8)) (c2 : List ((List (List UInt8)) × (List UInt8))) (s : List (Int × (List ((List UInt8) × (List UInt8))) × (List ((List UInt8) × Int)))) (s2 : List ((List UInt8) × (List UInt8) × (List (Int × (List Int))))) (field : List UInt8) (word : List UInt8) : Option ((List UInt8)) :=
 (Option.bind (i_SegOk_m N c c2 s s2) fun r =>
 (bif (!r) then
 (some ([] : List UInt8))
 else
 (Option.bind (i_WordOk_m N word) fun r2 =>
 (bif (!r2) then
 (some ([] : List UInt8))
 else
 (Option.bind (i_Seg_terms_m N (s, s2) field) fun r3 =>
 (iter (fun go (g : (List UInt8) × (List UInt8) × (List UInt8) × Int × Int × (List (List UInt8)) × Int × Int × (List (Int × (List ((List UInt8) × (List UInt8))) × (List ((List UInt8) × Int)))) × (List ((List UInt8) × (List UInt8) × (List (Int × (List Int)))))) =>
 match g with
 | (field2, word2, best, least, most, t26, t27, t28, s3, s4) =>
 (bif (decide (t28 < t27)) then
 (Option.bind (idx t26 t28) fun e =>
 (Option.bind (i_StemOf_m N word2) fun r4 =>
 (Option.bind (i_NearFar_m N e r4) fun r5 =>
 (Option.bind (i_Seg_posts_m N (s3, s4) field2 e) fun r6 =>
 (bif (decide (r5 < least)) then
 (if fits (t28 + 1) then (go (field2, word2, e, r5, (r6.length : Int), t26, t27, (t28 + 1), s3, s4)) else none)
 else
 (bif (decide (r5 = least)) then
 (bif (decide (r5 ≤ 2)) then
 (bif (decide (most < (r6.length : Int))) then
 (if fits (t28 + 1) then (go (field2, word2, e, r5, (r6.length : Int), t26, t27, (t28 + 1), s3, s4)) else none)
 else
 (if fits (t28 + 1) then (go (field2, word2, best, least, most, t26, t27, (t28 + 1), s3, s4)) else none))
 else
 (if fits (t28 + 1) then (go (field2, word2, best, least, most, t26, t27, (t28 + 1), s3, s4)) else none))
 else
 (if fits (t28 + 1) then (go (field2, word2, best, least, most, t26, t27, (t28 + 1), s3, s4)) else none)))))))
 else
 (some best))) N (field, word, ([] : List UInt8), 3, 0, r3, (r3.length : Int), 0, s, s2)))))))
def i_SpellOf_M (N : Nat) : Model := ⟨i_SpellOf_arg, i_SpellOf_ret, fun a => i_SpellOf_m N a.1 a.2.1 a.2.2.1 a.2.2.2.1 a.2.2.2.2.1 a.2.2.2.2.2⟩
set_option maxRecDepth 1000000 in
theorem i_SpellOf_ok (N : Nat) : ModelOk Tryz.prog 6 (i_SpellOf_M N) :=
  modelOk_of (E := mkEnv [(8, i_SegOk_M N), (9, i_WordOk_M N), (25, i_Seg_terms_M N), (10, i_StemOf_M N), (12, i_NearFar_M N), (26, i_Seg_posts_M N)] [] []) (mkEnv_ok (fnsOk_cons (i_SegOk_ok N) (fnsOk_cons (i_WordOk_ok N) (fnsOk_cons (i_Seg_terms_ok N) (fnsOk_cons (i_StemOf_ok N) (fnsOk_cons (i_NearFar_ok N) (fnsOk_cons (i_Seg_posts_ok N) fnsOk_nil)))))) _ _) Tryz.func6 (by kernel_rfl) rfl N i_SpellOf_h (i_SpellOf_M N) (by kernel_rfl) (by kernel_rfl) (fun a => by kernel_rfl)
/-! loop.example/fossick/spec.l1In -/
def s_l1In_arg : Sh := ⟨[.pv (.int .i64), .pv (.int .i64), .pv (.int .i64)], []⟩
def s_l1In_ret : Sh := ⟨[.pv .bool], []⟩
def s_l1In_h : Hint := .no
def s_l1In_m (N : Nat) (n : Int) (low : Int) (high : Int) : Option (Bool) :=
 (bif (decide (low ≤ n)) then
 (some (decide (n ≤ high)))
 else
 (some false))
def s_l1In_M (N : Nat) : Model := ⟨s_l1In_arg, s_l1In_ret, fun a => s_l1In_m N a.1 a.2.1 a.2.2⟩
set_option maxRecDepth 1000000 in
theorem s_l1In_ok (N : Nat) : ModelOk Tryz.prog 58 (s_l1In_M N) :=
  modelOk_of (E := mkEnv [] [] []) (mkEnv_ok fnsOk_nil _ _) Tryz.func58 (by kernel_rfl) rfl N s_l1In_h (s_l1In_M N) (by kernel_rfl) (by kernel_rfl) (fun a => by kernel_rfl)
/-! loop.example/fossick/spec.l1WordOk -/
def s_l1WordOk_arg : Sh := ⟨[.pv .str], []⟩
def s_l1WordOk_ret : Sh := ⟨[.pv .bool], []⟩
def s_l1WordOk_s1 : Sh := ⟨.pv .str :: .dead :: .dead :: .pv (.int .i64) :: dz 23 [], []⟩
def s_l1WordOk_h : Hint := (.seq .no (.seq (.seq .no (.block (.loop s_l1WordOk_s1 .no))) .no))
def s_l1WordOk_m (N : Nat) (s : List UInt8) : Option (Bool) :=
 (iter (fun go (g : (List UInt8) × Int) =>
 match g with
 | (s2, i) =>
 (bif (decide (i < (s2.length : Int))) then
 (Option.bind (idx s2 i) fun c =>
 (Option.bind (s_l1Fold_m N (c.toNat : Int)) fun r =>
 (Option.bind (idx s2 i) fun c2 =>
 (bif (!decide (r = (c2.toNat : Int))) then
 (some false)
 else
 (Option.bind (idx s2 i) fun c3 =>
 (bif (decide ((c3.toNat : Int) = 0)) then
 (some false)
 else
 (if fits (i + 1) then (go (s2, (i + 1))) else none)))))))
 else
 (Option.bind (s_l1In_m N (s2.length : Int) 1 12) fun r2 =>
 (some r2)))) N (s, 0))
def s_l1WordOk_M (N : Nat) : Model := ⟨s_l1WordOk_arg, s_l1WordOk_ret, fun a => s_l1WordOk_m N a⟩
set_option maxRecDepth 1000000 in
theorem s_l1WordOk_ok (N : Nat) : ModelOk Tryz.prog 28 (s_l1WordOk_M N) :=
  modelOk_of (E := mkEnv [(57, s_l1Fold_M N), (58, s_l1In_M N)] [] []) (mkEnv_ok (fnsOk_cons (s_l1Fold_ok N) (fnsOk_cons (s_l1In_ok N) fnsOk_nil)) _ _) Tryz.func28 (by kernel_rfl) rfl N s_l1WordOk_h (s_l1WordOk_M N) (by kernel_rfl) (by kernel_rfl) (fun a => by kernel_rfl)
/-! loop.example/fossick/spec.l2Ok -/
def s_l2Ok_arg : Sh := ⟨[.agg [.pv (.sl .str), .pv (.sl (.pair (.sl .str) .str))]], []⟩
def s_l2Ok_ret : Sh := ⟨[.pv .bool], []⟩
def s_l2Ok_s1 : Sh := ⟨.dead :: .box 1 0 :: .dead :: .pv (.int .i64) :: dz 114 [], [(1, false, [.pv (.sl .str), .pv Y11])]⟩
def s_l2Ok_s2 : Sh := ⟨.dead :: .box 1 0 :: .dead :: .dead :: .pv (.int .i64) :: dz 113 [], [(1, false, [.pv (.sl .str), .pv Y11])]⟩
def s_l2Ok_s3 : Sh := ⟨.dead :: .box 1 0 :: .dead :: .dead :: .pv (.int .i64) :: .box 5 0 :: .pv (.int .i64) :: dz 111 [], [(1, false, [.pv (.sl .str), .pv Y11]), (5, false, [.pv (.sl .str), .pv .str])]⟩
def s_l2Ok_h : Hint := (.seq .no (.seq (.seq .no (.block (.loop s_l2Ok_s1 .no))) (.seq (.seq .no (.block (.loop s_l2Ok_s2 (.seq .no (.seq (.block (.seq .no (.seq (.seq .no (.block (.loop s_l2Ok_s3 .no))) .no))) .no))))) .no)))
def s_l2Ok_m (N : Nat) (c : List (List UInt8)) (c2 : List ((List (List UInt8)) × (List UInt8))) : Option (Bool) :=
 (iter (fun go (g : Int × (List (List UInt8)) × (List ((List (List UInt8)) × (List UInt8)))) =>
 match g with
 | (i, c3, c4) =>
 (bif (decide (i < (c3.length : Int))) then
 (Option.bind (idx c3 i) fun e =>
 (Option.bind (s_l1WordOk_m N e) fun r =>
 (bif (!r) then
 (some false)
 else
 (bif (decide ((0 : Int) < i)) then
 (Option.bind (idx c3 i) fun e2 =>
 (if fits (i - 1) then (Option.bind (idx c3 (i - 1)) fun e3 =>
 (bif (Op.bytesLess e2 e3 || decide (e2 = e3)) then
 (some false)
 else
 (if fits (i + 1) then (go ((i + 1), c3, c4)) else none))) else none))
 else
 (if fits (i + 1) then (go ((i + 1), c3, c4)) else none)))))
 else
 (iter (fun go2 (g : Int × (List (List UInt8)) × (List ((List (List UInt8)) × (List UInt8)))) =>
 match g with
 | (i2, c5, c6) =>
 (bif (decide (i2 < (c6.length : Int))) then
 (Option.bind (idx c6 i2) fun e4 =>
 (iter (fun go3 (g : Int × Int × (List (List UInt8)) × (List ((List (List UInt8)) × (List UInt8))) × (List (List UInt8)) × (List UInt8)) =>
 match g with
 | (i3, k, c7, c8, y, y2) =>
 (bif (decide (k < (y.length : Int))) then
 (Option.bind (idx y k) fun e5 =>
 (Option.bind (s_l1WordOk_m N e5) fun r2 =>
 (bif (!r2) then
 (some false)
 else
 (Option.bind (idx y k) fun e6 =>
 (Option.bind (s_l2Stem_m N e6) fun r3 =>
 (Option.bind (idx y k) fun e7 =>
 (bif (!decide (r3 = e7)) then
 (some false)
 else
 (Option.bind (idx y k) fun e8 =>
 (Option.bind (s_l2Has_m N c7 e8) fun r4 =>
 (bif r4 then
 (some false)
 else
 (if fits (k + 1) then (go3 (i3, (k + 1), c7, c8, y, y2)) else none)))))))))))
 else
 (Option.bind (s_l1In_m N (y.length : Int) 1 3) fun r5 =>
 (bif (!r5) then
 (some false)
 else
 (Option.bind (s_l1WordOk_m N y2) fun r6 =>
 (bif (!r6) then
 (some false)
 else
 (Option.bind (s_l2Stem_m N y2) fun r7 =>
 (bif (!decide (r7 = y2)) then
 (some false)
 else
 (if fits (i3 + 1) then (go2 ((i3 + 1), c7, c8)) else none))))))))) N (i2, 0, c5, c6, e4.1, e4.2)))
 else
 (bif (decide ((c5.length : Int) ≤ 6)) then
 (some (decide ((c6.length : Int) ≤ 4)))
 else
 (some false)))) N (0, c3, c4)))) N (0, c, c2))
def s_l2Ok_M (N : Nat) : Model := ⟨s_l2Ok_arg, s_l2Ok_ret, fun a => s_l2Ok_m N a.1 a.2⟩
set_option maxRecDepth 1000000 in
theorem s_l2Ok_ok (N : Nat) : ModelOk Tryz.prog 53 (s_l2Ok_M N) :=
  modelOk_of (E := mkEnv [(28, s_l1WordOk_M N), (29, s_l2Stem_M N), (85, s_l2Has_M N), (58, s_l1In_M N)] [] []) (mkEnv_ok (fnsOk_cons (s_l1WordOk_ok N) (fnsOk_cons (s_l2Stem_ok N) (fnsOk_cons (s_l2Has_ok N) (fnsOk_cons (s_l1In_ok N) fnsOk_nil)))) _ _) Tryz.func53 (by kernel_rfl) rfl N s_l2Ok_h (s_l2Ok_M N) (by kernel_rfl) (by kernel_rfl) (fun a => by kernel_rfl)
/-! loop.example/fossick/spec.l1Text -/
def s_l1Text_arg : Sh := ⟨[.pv .str], []⟩
def s_l1Text_ret : Sh := ⟨[.pv .bool], []⟩
def s_l1Text_s1 : Sh := ⟨.pv .str :: .dead :: .dead :: .pv (.int .i64) :: dz 19 [], []⟩
def s_l1Text_h : Hint := (.seq .no (.seq (.seq .no (.block (.loop s_l1Text_s1 .no))) .no))
def s_l1Text_m (N : Nat) (s : List UInt8) : Option (Bool) :=
 (iter (fun go (g : (List UInt8) × Int) =>
 match g with
 | (s2, i) =>
 (bif (decide (i < (s2.length : Int))) then
 (Option.bind (idx s2 i) fun c =>
 (bif (decide ((c.toNat : Int) < 32)) then
 (some false)
 else
 (Option.bind (idx s2 i) fun c2 =>
 (bif (decide ((126 : Int) < (c2.toNat : Int))) then
 (some false)
 else
 (if fits (i + 1) then (go (s2, (i + 1))) else none)))))
 else
 (some (decide ((s2.length : Int) ≤ 160))))) N (s, 0))
def s_l1Text_M (N : Nat) : Model := ⟨s_l1Text_arg, s_l1Text_ret, fun a => s_l1Text_m N a⟩
set_option maxRecDepth 1000000 in
theorem s_l1Text_ok (N : Nat) : ModelOk Tryz.prog 114 (s_l1Text_M N) :=
  modelOk_of (E := mkEnv [] [] []) (mkEnv_ok fnsOk_nil _ _) Tryz.func114 (by kernel_rfl) rfl N s_l1Text_h (s_l1Text_M N) (by kernel_rfl) (by kernel_rfl) (fun a => by kernel_rfl)
/-! loop.example/fossick/spec.l6Ok -/
def s_l6Ok_arg : Sh := ⟨[.agg [.pv (.int .i64), .pv (.sl (.pair .str .str)), .pv (.sl (.pair .str (.int .i64)))]], []⟩
def s_l6Ok_ret : Sh := ⟨[.pv .bool], []⟩
def s_l6Ok_s1 : Sh := ⟨.dead :: .box 1 0 :: .dead :: .pv (.int .i64) :: dz 100 [], [(1, false, [.pv (.int .i64), .pv Y13, .pv Y10])]⟩
def s_l6Ok_s2 : Sh := ⟨.dead :: .box 1 0 :: dz 3 (.pv (.int .i64) :: dz 98 []), [(1, false, [.pv (.int .i64), .pv Y13, .pv Y10])]⟩
def s_l6Ok_h : Hint := (.seq .no (.seq (.seq .no (.block (.loop s_l6Ok_s1 .no))) (.seq (.seq .no (.block (.loop s_l6Ok_s2 .no))) .no)))
def s_l6Ok_m (N : Nat) (d : Int) (d2 : List ((List UInt8) × (List UInt8))) (d3 : List ((List UInt8) × Int)) : Option (Bool) :=
 (iter (fun go (g : Int × Int × (List ((List UInt8) × (List UInt8))) × (List ((List UInt8) × Int))) =>
 match g with
 | (i, d4, d5, d6) =>
 (bif (decide (i < (d5.length : Int))) then
 (Option.bind (idx d5 i) fun e =>
 (Option.bind (s_l1WordOk_m N e.1) fun r =>
 (bif (!r) then
 (some false)
 else
 (Option.bind (s_l1Text_m N e.2) fun r2 =>
 (bif (!r2) then
 (some false)
 else
 (bif (decide ((0 : Int) < i)) then
 (if fits (i - 1) then (Option.bind (idx d5 (i - 1)) fun e2 =>
 (bif (Op.bytesLess e.1 e2.1 || decide (e.1 = e2.1)) then
 (some false)
 else
 (if fits (i + 1) then (go ((i + 1), d4, d5, d6)) else none))) else none)
 else
 (if fits (i + 1) then (go ((i + 1), d4, d5, d6)) else none)))))))
 else
 (iter (fun go2 (g : Int × Int × (List ((List UInt8) × (List UInt8))) × (List ((List UInt8) × Int))) =>
 match g with
 | (i2, d7, d8, d9) =>
 (bif (decide (i2 < (d9.length : Int))) then
 (Option.bind (idx d9 i2) fun e3 =>
 (Option.bind (s_l1WordOk_m N e3.1) fun r3 =>
 (bif (!r3) then
 (some false)
 else
 (Option.bind (idx d9 i2) fun e4 =>
 (Option.bind (s_l1In_m N e4.2 0 999999999) fun r4 =>
 (bif (!r4) then
 (some false)
 else
 (bif (decide ((0 : Int) < i2)) then
 (Option.bind (idx d9 i2) fun e5 =>
 (if fits (i2 - 1) then (Option.bind (idx d9 (i2 - 1)) fun e6 =>
 (bif (Op.bytesLess e5.1 e6.1 || decide (e5.1 = e6.1)) then
 (some false)
 else
 (if fits (i2 + 1) then (go2 ((i2 + 1), d7, d8, d9)) else none))) else none))
 else
 (if fits (i2 + 1) then (go2 ((i2 + 1), d7, d8, d9)) else none))))))))
 else
 (Option.bind (s_l1In_m N d7 1 9999) fun r5 =>
 (bif r5 then
 (Option.bind (s_l1In_m N (d8.length : Int) 0 3) fun r6 =>
 (bif r6 then
 (some (decide ((d9.length : Int) ≤ 3)))
 else
 (some false)))
 else
 (some false))))) N (0, d4, d5, d6)))) N (0, d, d2, d3))
def s_l6Ok_M (N : Nat) : Model := ⟨s_l6Ok_arg, s_l6Ok_ret, fun a => s_l6Ok_m N a.1 a.2.1 a.2.2⟩
set_option maxRecDepth 1000000 in
theorem s_l6Ok_ok (N : Nat) : ModelOk Tryz.prog 86 (s_l6Ok_M N) :=
  modelOk_of (E := mkEnv [(28, s_l1WordOk_M N), (114, s_l1Text_M N), (58, s_l1In_M N)] [] []) (mkEnv_ok (fnsOk_cons (s_l1WordOk_ok N) (fnsOk_cons (s_l1Text_ok N) (fnsOk_cons (s_l1In_ok N) fnsOk_nil))) _ _) Tryz.func86 (by kernel_rfl) rfl N s_l6Ok_h (s_l6Ok_M N) (by kernel_rfl) (by kernel_rfl) (fun a => by kernel_rfl)
/-! loop.example/fossick/spec.l6Docs -/
def s_l6Docs_arg : Sh := ⟨[.pv (.sl (.pair (.int .i64) (.pair (.sl (.pair .str .str)) (.sl (.pair .str (.int .i64))))))], []⟩
def s_l6Docs_ret : Sh := ⟨[.pv .bool], []⟩
def s_l6Docs_s1 : Sh := ⟨.pv Y0 :: .dead :: .dead :: .pv (.int .i64) :: dz 33 [], []⟩
def s_l6Docs_h : Hint := (.seq .no (.seq (.seq .no (.block (.loop s_l6Docs_s1 .no))) .no))
def s_l6Docs_m (N : Nat) (list : List (Int × (List ((List UInt8) × (List UInt8))) × (List ((List UInt8) × Int)))) : Option (Bool) :=
 (iter (fun go (g : (List (Int × (List ((List UInt8) × (List UInt8))) × (List ((List UInt8) × Int)))) × Int) =>
 match g with
 | (list2, i) =>
 (bif (decide (i < (list2.length : Int))) then
 (Option.bind (idx list2 i) fun e =>
 (Option.bind (s_l6Ok_m N e.1 e.2.1 e.2.2) fun r =>
 (bif (!r) then
 (some false)
 else
 (bif (decide ((0 : Int) < i)) then
 (Option.bind (idx list2 i) fun e2 =>
 (if fits (i - 1) then (Option.bind (idx list2 (i - 1)) fun e3 =>
 (bif (decide (e2.1 ≤ e3.1)) then
 (some false)
 else
 (if fits (i + 1) then (go (list2, (i + 1))) else none))) else none))
 else
 (if fits (i + 1) then (go (list2, (i + 1))) else none)))))
 else
 (some (decide ((list2.length : Int) ≤ 16))))) N (list, 0))
def s_l6Docs_M (N : Nat) : Model := ⟨s_l6Docs_arg, s_l6Docs_ret, fun a => s_l6Docs_m N a⟩
set_option maxRecDepth 1000000 in
theorem s_l6Docs_ok (N : Nat) : ModelOk Tryz.prog 54 (s_l6Docs_M N) :=
  modelOk_of (E := mkEnv [(86, s_l6Ok_M N)] [] []) (mkEnv_ok (fnsOk_cons (s_l6Ok_ok N) fnsOk_nil) _ _) Tryz.func54 (by kernel_rfl) rfl N s_l6Docs_h (s_l6Docs_M N) (by kernel_rfl) (by kernel_rfl) (fun a => by kernel_rfl)
/-! loop.example/fossick/spec.l7SameInts -/
def s_l7SameInts_arg : Sh := ⟨[.pv (.sl (.int .i64)), .pv (.sl (.int .i64))], []⟩
def s_l7SameInts_ret : Sh := ⟨[.pv .bool], []⟩
def s_l7SameInts_s1 : Sh := ⟨.pv Y16 :: .pv Y16 :: dz 3 (.pv (.int .i64) :: dz 20 []), []⟩
def s_l7SameInts_h : Hint := (.seq .no (.seq .no (.seq (.seq .no (.block (.loop s_l7SameInts_s1 .no))) .no)))
def s_l7SameInts_m (N : Nat) (a : List Int) (b : List Int) : Option (Bool) :=
 (bif (!decide ((a.length : Int) = (b.length : Int))) then
 (some false)
 else
 (iter (fun go (g : (List Int) × (List Int) × Int) =>
 match g with
 | (a2, b2, i) =>
 (bif (decide (i < (a2.length : Int))) then
 (Option.bind (idx a2 i) fun e =>
 (Option.bind (idx b2 i) fun e2 =>
 (bif (!decide (e = e2)) then
 (some false)
 else
 (if fits (i + 1) then (go (a2, b2, (i + 1))) else none))))
 else
 (some true))) N (a, b, 0)))
def s_l7SameInts_M (N : Nat) : Model := ⟨s_l7SameInts_arg, s_l7SameInts_ret, fun a => s_l7SameInts_m N a.1 a.2⟩
set_option maxRecDepth 1000000 in
theorem s_l7SameInts_ok (N : Nat) : ModelOk Tryz.prog 91 (s_l7SameInts_M N) :=
  modelOk_of (E := mkEnv [] [] []) (mkEnv_ok fnsOk_nil _ _) Tryz.func91 (by kernel_rfl) rfl N s_l7SameInts_h (s_l7SameInts_M N) (by kernel_rfl) (by kernel_rfl) (fun a => by kernel_rfl)
/-! loop.example/fossick/spec.l7SameEntry -/
def s_l7SameEntry_arg : Sh := ⟨[.agg [.pv .str, .pv .str, .pv (.sl (.pair (.int .i64) (.sl (.int .i64))))], .agg [.pv .str, .pv .str, .pv (.sl (.pair (.int .i64) (.sl (.int .i64))))]], []⟩
def s_l7SameEntry_ret : Sh := ⟨[.pv .bool], []⟩
def s_l7SameEntry_s1 : Sh := ⟨.dead :: .dead :: .box 2 0 :: .box 3 0 :: .dead :: .pv (.int .i64) :: dz 57 [], [(2, false, [.pv .str, .pv .str, .pv Y8]), (3, false, [.pv .str, .pv .str, .pv Y8])]⟩
def s_l7SameEntry_h : Hint := (.seq .no (.seq .no (.seq (.seq .no (.block (.loop s_l7SameEntry_s1 .no))) .no)))
def s_l7SameEntry_m (N : Nat) (a : List UInt8) (a2 : List UInt8) (a3 : List (Int × (List Int))) (b : List UInt8) (b2 : List UInt8) (b3 : List (Int × (List Int))) : Option (Bool) :=
 (bif (!decide (a = b)) then
 (some false)
 else
 (bif (!decide (a2 = b2)) then
 (some false)
 else
 (bif (!decide ((a3.length : Int) = (b3.length : Int))) then
 (some false)
 else
 (iter (fun go (g : Int × (List UInt8) × (List UInt8) × (List (Int × (List Int))) × (List UInt8) × (List UInt8) × (List (Int × (List Int)))) =>
 match g with
 | (i, a4, a5, a6, b4, b5, b6) =>
 (bif (decide (i < (a6.length : Int))) then
 (Option.bind (idx a6 i) fun e =>
 (Option.bind (idx b6 i) fun e2 =>
 (bif (!decide (e.1 = e2.1)) then
 (some false)
 else
 (Option.bind (idx a6 i) fun e3 =>
 (Option.bind (idx b6 i) fun e4 =>
 (Option.bind (s_l7SameInts_m N e3.2 e4.2) fun r =>
 (bif (!r) then
 (some false)
 else
 (if fits (i + 1) then (go ((i + 1), a4, a5, a6, b4, b5, b6)) else none))))))))
 else
 (some true))) N (0, a, a2, a3, b, b2, b3)))))
def s_l7SameEntry_M (N : Nat) : Model := ⟨s_l7SameEntry_arg, s_l7SameEntry_ret, fun a => s_l7SameEntry_m N a.1 a.2.1 a.2.2.1 a.2.2.2.1 a.2.2.2.2.1 a.2.2.2.2.2⟩
set_option maxRecDepth 1000000 in
theorem s_l7SameEntry_ok (N : Nat) : ModelOk Tryz.prog 56 (s_l7SameEntry_M N) :=
  modelOk_of (E := mkEnv [(91, s_l7SameInts_M N)] [] []) (mkEnv_ok (fnsOk_cons (s_l7SameInts_ok N) fnsOk_nil) _ _) Tryz.func56 (by kernel_rfl) rfl N s_l7SameEntry_h (s_l7SameEntry_M N) (by kernel_rfl) (by kernel_rfl) (fun a => by kernel_rfl)
/-! loop.example/fossick/spec.l7Ok -/
def s_l7Ok_arg : Sh := ⟨[.agg [.pv (.sl .str), .pv (.sl (.pair (.sl .str) .str))], .agg [.pv (.sl (.pair (.int .i64) (.pair (.sl (.pair .str .str)) (.sl (.pair .str (.int .i64)))))), .pv (.sl (.pair .str (.pair .str (.sl (.pair (.int .i64) (.sl (.int .i64)))))))]], []⟩
def s_l7Ok_ret : Sh := ⟨[.pv .bool], []⟩
def s_l7Ok_s1 : Sh := ⟨dz 3 (.box 3 0 :: .dead :: .box 5 0 :: .pv (.int .i64) :: dz 39 []), [(3, false, [.pv Y0, .pv Y2]), (5, false, [.own 700500 Y1 102 true, .own 700501 Y3 66 true])]⟩
def s_l7Ok_h : Hint := (.seq .no (.seq .no (.seq .no (.seq .no (.seq (.seq .no (.block (.loop s_l7Ok_s1 .no))) .no)))))
def s_l7Ok_m (N : Nat) (c : List (List UInt8)) (c2 : List ((List (List UInt8)) × (List UInt8))) (s : List (Int × (List ((List UInt8) × (List UInt8))) × (List ((List UInt8) × Int)))) (s2 : List ((List UInt8) × (List UInt8) × (List (Int × (List Int))))) : Option (Bool) :=
 (Option.bind (s_l2Ok_m N c c2) fun r =>
 (bif (!r) then
 (some false)
 else
 (Option.bind (s_l6Docs_m N s) fun r2 =>
 (bif (!r2) then
 (some false)
 else
 (Option.bind (s_l7Of_m N c c2 s) fun r3 =>
 (bif (!decide ((r3.2.length : Int) = (s2.length : Int))) then
 (some false)
 else
 (iter (fun go (g : Int × (List (Int × (List ((List UInt8) × (List UInt8))) × (List ((List UInt8) × Int)))) × (List ((List UInt8) × (List UInt8) × (List (Int × (List Int))))) × (List (Int × (List ((List UInt8) × (List UInt8))) × (List ((List UInt8) × Int)))) × (List ((List UInt8) × (List UInt8) × (List (Int × (List Int)))))) =>
 match g with
 | (i, s3, s4, x, x2) =>
 (bif (decide (i < (x2.length : Int))) then
 (Option.bind (idx x2 i) fun e =>
 (Option.bind (idx s4 i) fun e2 =>
 (Option.bind (s_l7SameEntry_m N e.1 e.2.1 e.2.2 e2.1 e2.2.1 e2.2.2) fun r4 =>
 (bif (!r4) then
 (some false)
 else
 (if fits (i + 1) then (go ((i + 1), s3, s4, x, x2)) else none)))))
 else
 (some true))) N (0, s, s2, r3.1, r3.2))))))))
def s_l7Ok_M (N : Nat) : Model := ⟨s_l7Ok_arg, s_l7Ok_ret, fun a => s_l7Ok_m N a.1 a.2.1 a.2.2.1 a.2.2.2⟩
set_option maxRecDepth 1000000 in
theorem s_l7Ok_ok (N : Nat) : ModelOk Tryz.prog 27 (s_l7Ok_M N) :=
  modelOk_of (E := mkEnv [(53, s_l2Ok_M N), (54, s_l6Docs_M N), (55, s_l7Of_M N), (56, s_l7SameEntry_M N)] [] []) (mkEnv_ok (fnsOk_cons (s_l2Ok_ok N) (fnsOk_cons (s_l6Docs_ok N) (fnsOk_cons (s_l7Of_ok N) (fnsOk_cons (s_l7SameEntry_ok N) fnsOk_nil)))) _ _) Tryz.func27 (by kernel_rfl) rfl N s_l7Ok_h (s_l7Ok_M N) (by kernel_rfl) (by kernel_rfl) (fun a => by kernel_rfl)
/-! loop.example/fossick/spec.l5Min -/
def s_l5Min_arg : Sh := ⟨[.pv (.int .i64), .pv (.int .i64)], []⟩
def s_l5Min_ret : Sh := ⟨[.pv (.int .i64)], []⟩
def s_l5Min_h : Hint := .no
def s_l5Min_m (N : Nat) (a : Int) (b : Int) : Option (Int) :=
 (bif (decide (a < b)) then
 (some a)
 else
 (some b))
def s_l5Min_M (N : Nat) : Model := ⟨s_l5Min_arg, s_l5Min_ret, fun a => s_l5Min_m N a.1 a.2⟩
set_option maxRecDepth 1000000 in
theorem s_l5Min_ok (N : Nat) : ModelOk Tryz.prog 60 (s_l5Min_M N) :=
  modelOk_of (E := mkEnv [] [] []) (mkEnv_ok fnsOk_nil _ _) Tryz.func60 (by kernel_rfl) rfl N s_l5Min_h (s_l5Min_M N) (by kernel_rfl) (by kernel_rfl) (fun a => by kernel_rfl)
/-! loop.example/fossick/spec.l5Far -/
def s_l5Far_arg : Sh := ⟨[.pv .str, .pv .str], []⟩
def s_l5Far_ret : Sh := ⟨[.pv (.int .i64)], []⟩
def s_l5Far_s1 : Sh := ⟨.pv .str :: .pv .str :: dz 3 (.mtk 600005 (.int .i64) 3 true :: .pv (.int .i64) :: dz 74 []), []⟩
def s_l5Far_s2 : Sh := ⟨.pv .str :: .pv .str :: dz 3 (.mtk 600005 (.int .i64) 3 true :: .dead :: .pv (.int .i64) :: dz 73 []), []⟩
def s_l5Far_s3 : Sh := ⟨.pv .str :: .pv .str :: dz 3 (.mtk 600005 (.int .i64) 3 true :: .dead :: .pv (.int .i64) :: .pv (.int .i64) :: .pv (.int .i64) :: dz 71 []), []⟩
def s_l5Far_s4 : Sh := ⟨.pv .str :: .pv .str :: dz 3 (.mtk 600005 (.int .i64) 3 true :: .dead :: .pv (.int .i64) :: .dead :: .pv (.int .i64) :: .pv (.int .i64) :: dz 70 []), []⟩
def s_l5Far_h : Hint := (.seq .no (.seq .no (.seq (.seq .no (.block (.loop s_l5Far_s1 .no))) (.seq (.seq .no (.block (.loop s_l5Far_s2 (.seq .no (.seq (.block (.seq .no (.seq .no (.seq .no (.block (.loop s_l5Far_s3 (.seq .no (.seq (.block (.seq .no (.meet s_l5Far_s4 .no .no))) .no)))))))) .no))))) .no))))
def s_l5Far_m (N : Nat) (a : List UInt8) (b : List UInt8) : Option (Int) :=
 (if fits ((b.length : Int) + 1) then (if ((b.length : Int) + 1) = ((b.length : Int) + 1) ∧ 0 ≤ ((b.length : Int) + 1) ∧ ((b.length : Int) + 1) * 8 ≤ 140737488355328 ∧ ((b.length : Int) + 1) ≤ 140737488355328 then
 (iter (fun go (g : (List UInt8) × (List UInt8) × (List Int) × Int) =>
 match g with
 | (a2, b2, row, k) =>
 (bif (decide (k ≤ (b2.length : Int))) then
 (if 0 ≤ k ∧ k < (row.length : Int) then
 (Option.bind (row[k.toNat]?) fun e =>
 (if fits (k + 1) then (go (a2, b2, (row.set k.toNat k), (k + 1))) else none))
 else none)
 else
 (iter (fun go2 (g : (List UInt8) × (List UInt8) × (List Int) × Int) =>
 match g with
 | (a3, b3, row2, i) =>
 (bif (decide (i < (a3.length : Int))) then
 (if 0 ≤ (0 : Int) ∧ (0 : Int) < (row2.length : Int) then
 (Option.bind (row2[(0 : Int).toNat]?) fun e2 =>
 (if fits (i + 1) then (if 0 ≤ (0 : Int) ∧ (0 : Int) < (row2.length : Int) then
 (Option.bind (row2[(0 : Int).toNat]?) fun e3 =>
 (iter (fun go3 (g : (List UInt8) × (List UInt8) × (List Int) × Int × Int × Int) =>
 match g with
 | (a4, b4, row3, i2, ahead, k2) =>
 (bif (decide (k2 < (b4.length : Int))) then
 (meet (fun (g : (List UInt8) × (List UInt8) × (List Int) × Int × Int × Int) =>
 match g with
 | (a5, b5, row4, i3, k3, n) =>
 (if fits (k3 + 1) then (if 0 ≤ (k3 + 1) ∧ (k3 + 1) < (row4.length : Int) then
 (Option.bind (row4[(k3 + 1).toNat]?) fun e4 =>
 (if fits (k3 + 1) then (if 0 ≤ k3 ∧ k3 < (row4.length : Int) then
 (Option.bind (row4[k3.toNat]?) fun e5 =>
 (if fits (k3 + 1) then (if 0 ≤ (k3 + 1) ∧ (k3 + 1) < (row4.length : Int) then
 (Option.bind (row4[(k3 + 1).toNat]?) fun e6 =>
 (Option.bind (s_l5Min_m N e5 e6) fun r =>
 (if fits (r + 1) then (Option.bind (s_l5Min_m N n (r + 1)) fun r2 =>
 (if 0 ≤ (k3 + 1) ∧ (k3 + 1) < (row4.length : Int) then
 (Option.bind (row4[(k3 + 1).toNat]?) fun e7 =>
 (if fits (k3 + 1) then (go3 (a5, b5, (row4.set (k3 + 1).toNat r2), i3, e4, (k3 + 1))) else none))
 else none)) else none)))
 else none) else none))
 else none) else none))
 else none) else none)) fun J =>
 (Option.bind (idx a4 i2) fun c =>
 (Option.bind (idx b4 k2) fun c2 =>
 (bif (!decide ((c.toNat : Int) = (c2.toNat : Int))) then
 (if fits (ahead + 1) then (J (a4, b4, row3, i2, k2, (ahead + 1))) else none)
 else
 (J (a4, b4, row3, i2, k2, ahead))))))
 else
 (if fits (i2 + 1) then (go2 (a4, b4, row3, (i2 + 1))) else none))) N (a3, b3, (row2.set (0 : Int).toNat (i + 1)), i, e2, 0)))
 else none) else none))
 else none)
 else
 (if 0 ≤ (b3.length : Int) ∧ (b3.length : Int) < (row2.length : Int) then
 (Option.bind (row2[(b3.length : Int).toNat]?) fun e8 =>
 (some e8))
 else none))) N (a2, b2, row, 0)))) N (a, b, (List.replicate ((b.length : Int) + 1).toNat 0), 0))
 else none) else none)
def s_l5Far_M (N : Nat) : Model := ⟨s_l5Far_arg, s_l5Far_ret, fun a => s_l5Far_m N a.1 a.2⟩
set_option maxRecDepth 1000000 in
theorem s_l5Far_ok (N : Nat) : ModelOk Tryz.prog 30 (s_l5Far_M N) :=
  modelOk_of (E := mkEnv [(60, s_l5Min_M N)] [14] []) (mkEnv_ok (fnsOk_cons (s_l5Min_ok N) fnsOk_nil) _ _) Tryz.func30 (by kernel_rfl) rfl N s_l5Far_h (s_l5Far_M N) (by kernel_rfl) (by kernel_rfl) (fun a => by kernel_rfl)
/-! loop.example/fossick/spec.SpellOf -/
def s_SpellOf_arg : Sh := ⟨[.agg [.pv (.sl .str), .pv (.sl (.pair (.sl .str) .str))], .agg [.pv (.sl (.pair (.int .i64) (.pair (.sl (.pair .str .str)) (.sl (.pair .str (.int .i64)))))), .pv (.sl (.pair .str (.pair .str (.sl (.pair (.int .i64) (.sl (.int .i64)))))))], .pv .str, .pv .str], []⟩
def s_SpellOf_ret : Sh := ⟨[.pv .str], []⟩
def s_SpellOf_s1 : Sh := ⟨.dead :: .dead :: .pv .str :: .dead :: .dead :: .box 5 0 :: dz 3 (.pv .str :: .pv (.int .i64) :: .pv (.int .i64) :: .pv .str :: .pv (.int .i64) :: dz 61 []), [(5, false, [.pv Y0, .pv Y2])]⟩
def s_SpellOf_s2 : Sh := ⟨.dead :: .dead :: .pv .str :: .dead :: .dead :: .box 5 0 :: dz 3 (.pv .str :: .pv (.int .i64) :: .pv (.int .i64) :: .pv .str :: .pv (.int .i64) :: .box 14 0 :: .pv (.int .i64) :: dz 59 []), [(5, false, [.pv Y0, .pv Y2]), (14, false, [.pv .str, .pv .str, .pv Y8])]⟩
def s_SpellOf_s3 : Sh := ⟨.dead :: .dead :: .pv .str :: .dead :: .dead :: .box 5 0 :: dz 3 (.pv .str :: .pv (.int .i64) :: .pv (.int .i64) :: .pv .str :: dz 62 []), [(5, false, [.pv Y0, .pv Y2])]⟩
def s_SpellOf_s4 : Sh := ⟨.dead :: .dead :: .pv .str :: .pv .str :: .dead :: .box 5 0 :: dz 3 (.pv .str :: .pv (.int .i64) :: .pv (.int .i64) :: dz 63 []), [(5, false, [.pv Y0, .pv Y2])]⟩
def s_SpellOf_h : Hint := (.seq .no (.seq .no (.seq .no (.seq .no (.meet s_SpellOf_s4 .no (.meet s_SpellOf_s3 .no (.seq (.seq .no (.block (.loop s_SpellOf_s1 (.seq .no (.seq (.block (.seq .no (.meet s_SpellOf_s2 .no .no))) .no))))) .no)))))))
def s_SpellOf_m (N : Nat) (c : List (List UInt8)) (c2 : List ((List (List UInt8)) × (List UInt8))) (s : List (Int × (List ((List UInt8) × (List UInt8))) × (List ((List UInt8) × Int)))) (s2 : List ((List UInt8) × (List UInt8) × (List (Int × (List Int))))) (field : List UInt8) (word : List UInt8) : Option ((List UInt8)) :=
 (meet (fun (g : (List UInt8) × (List UInt8) × (List UInt8) × Int × Int × (List (Int × (List ((List UInt8) × (List UInt8))) × (List ((List UInt8) × Int)))) × (List ((List UInt8) × (List UInt8) × (List (Int × (List Int)))))) =>
 match g with
 | (field2, word2, best, far, docs, s3, s4) =>
 (meet (fun (g : (List UInt8) × (List UInt8) × Int × Int × (List UInt8) × (List (Int × (List ((List UInt8) × (List UInt8))) × (List ((List UInt8) × Int)))) × (List ((List UInt8) × (List UInt8) × (List (Int × (List Int)))))) =>
 match g with
 | (field3, best2, far2, docs2, stem, s5, s6) =>
 (iter (fun go (g : (List UInt8) × (List UInt8) × Int × Int × (List UInt8) × Int × (List (Int × (List ((List UInt8) × (List UInt8))) × (List ((List UInt8) × Int)))) × (List ((List UInt8) × (List UInt8) × (List (Int × (List Int)))))) =>
 match g with
 | (field4, best3, far3, docs3, stem2, i, s7, s8) =>
 (bif (decide (i < (s8.length : Int))) then
 (Option.bind (idx s8 i) fun e =>
 (meet (fun (g : (List UInt8) × (List UInt8) × Int × Int × (List UInt8) × Int × Int × (List (Int × (List ((List UInt8) × (List UInt8))) × (List ((List UInt8) × Int)))) × (List ((List UInt8) × (List UInt8) × (List (Int × (List Int))))) × (List UInt8) × (List UInt8) × (List (Int × (List Int)))) =>
 match g with
 | (field5, best4, far4, docs4, stem3, i2, d, s9, s10, e2, e3, e4) =>
 (bif (decide (e2 = field5)) then
 (bif (decide (d < far4)) then
 (if fits (i2 + 1) then (go (field5, e3, d, (e4.length : Int), stem3, (i2 + 1), s9, s10)) else none)
 else
 (bif (decide (d = far4)) then
 (bif (decide (d ≤ 2)) then
 (bif (decide (docs4 < (e4.length : Int))) then
 (if fits (i2 + 1) then (go (field5, e3, d, (e4.length : Int), stem3, (i2 + 1), s9, s10)) else none)
 else
 (if fits (i2 + 1) then (go (field5, best4, far4, docs4, stem3, (i2 + 1), s9, s10)) else none))
 else
 (if fits (i2 + 1) then (go (field5, best4, far4, docs4, stem3, (i2 + 1), s9, s10)) else none))
 else
 (if fits (i2 + 1) then (go (field5, best4, far4, docs4, stem3, (i2 + 1), s9, s10)) else none)))
 else
 (if fits (i2 + 1) then (go (field5, best4, far4, docs4, stem3, (i2 + 1), s9, s10)) else none))) fun J3 =>
 (Option.bind (s_l5Far_m N e.2.1 stem2) fun r4 =>
 (J3 (field4, best3, far3, docs3, stem2, i, r4, s7, s8, e.1, e.2.1, e.2.2)))))
 else
 (some best3))) N (field3, best2, far2, docs2, stem, 0, s5, s6))) fun J2 =>
 (Option.bind (s_l2Stem_m N word2) fun r3 =>
 (J2 (field2, best, far, docs, r3, s3, s4))))) fun J =>
 (Option.bind (s_l7Ok_m N c c2 s s2) fun r =>
 (bif (!r) then
 (some ([] : List UInt8))
 else
 (Option.bind (s_l1WordOk_m N word) fun r2 =>
 (bif (!r2) then
 (some ([] : List UInt8))
 else
 (J (field, word, ([] : List UInt8), 3, 0, s, s2)))))))
def s_SpellOf_M (N : Nat) : Model := ⟨s_SpellOf_arg, s_SpellOf_ret, fun a => s_SpellOf_m N a.1 a.2.1 a.2.2.1 a.2.2.2.1 a.2.2.2.2.1 a.2.2.2.2.2⟩
set_option maxRecDepth 1000000 in
theorem s_SpellOf_ok (N : Nat) : ModelOk Tryz.prog 7 (s_SpellOf_M N) :=
  modelOk_of (E := mkEnv [(27, s_l7Ok_M N), (28, s_l1WordOk_M N), (29, s_l2Stem_M N), (30, s_l5Far_M N)] [] []) (mkEnv_ok (fnsOk_cons (s_l7Ok_ok N) (fnsOk_cons (s_l1WordOk_ok N) (fnsOk_cons (s_l2Stem_ok N) (fnsOk_cons (s_l5Far_ok N) fnsOk_nil)))) _ _) Tryz.func7 (by kernel_rfl) rfl N s_SpellOf_h (s_SpellOf_M N) (by kernel_rfl) (by kernel_rfl) (fun a => by kernel_rfl)
/-! loop.example/fossick/impl.SegTerms -/
def i_SegTerms_arg : Sh := ⟨[.agg [.pv (.sl .str), .pv (.sl (.pair (.sl .str) .str))], .agg [.pv (.sl (.pair (.int .i64) (.pair (.sl (.pair .str .str)) (.sl (.pair .str (.int .i64)))))), .pv (.sl (.pair .str (.pair .str (.sl (.pair (.int .i64) (.sl (.int .i64)))))))], .pv .str], []⟩
def i_SegTerms_ret : Sh := ⟨[.own 1 .str 9 true], []⟩
def i_SegTerms_h : Hint := .no
def i_SegTerms_m (N : Nat) (c : List (List UInt8)) (c2 : List ((List (List UInt8)) × (List UInt8))) (s : List (Int × (List ((List UInt8) × (List UInt8))) × (List ((List UInt8) × Int)))) (s2 : List ((List UInt8) × (List UInt8) × (List (Int × (List Int))))) (field : List UInt8) : Option ((List (List UInt8))) :=
 (Option.bind (i_SegOk_m N c c2 s s2) fun r =>
 (bif (!r) then
 (some ([] : List (List UInt8)))
 else
 (Option.bind (i_Seg_terms_m N (s, s2) field) fun r2 =>
 (some r2))))
def i_SegTerms_M (N : Nat) : Model := ⟨i_SegTerms_arg, i_SegTerms_ret, fun a => i_SegTerms_m N a.1 a.2.1 a.2.2.1 a.2.2.2.1 a.2.2.2.2⟩
set_option maxRecDepth 1000000 in
theorem i_SegTerms_ok (N : Nat) : ModelOk Tryz.prog 11 (i_SegTerms_M N) :=
  modelOk_of (E := mkEnv [(8, i_SegOk_M N), (25, i_Seg_terms_M N)] [] []) (mkEnv_ok (fnsOk_cons (i_SegOk_ok N) (fnsOk_cons (i_Seg_terms_ok N) fnsOk_nil)) _ _) Tryz.func11 (by kernel_rfl) rfl N i_SegTerms_h (i_SegTerms_M N) (by kernel_rfl) (by kernel_rfl) (fun a => by kernel_rfl)
/-! loop.example/fossick/impl.SegPosts -/
def i_SegPosts_arg : Sh := ⟨[.agg [.pv (.sl .str), .pv (.sl (.pair (.sl .str) .str))], .agg [.pv (.sl (.pair (.int .i64) (.pair (.sl (.pair .str .str)) (.sl (.pair .str (.int .i64)))))), .pv (.sl (.pair .str (.pair .str (.sl (.pair (.int .i64) (.sl (.int .i64)))))))], .pv .str, .pv .str], []⟩
def i_SegPosts_ret : Sh := ⟨[.own 1 (.pair (.int .i64) (.sl (.int .i64))) 77 true], []⟩
def i_SegPosts_s1 : Sh := ⟨dz 9 (.own 600009 Y9 77 true :: dz 10 (.pv Y8 :: .pv (.int .i64) :: .pv (.int .i64) :: dz 15 [])), []⟩
def i_SegPosts_h : Hint := (.seq .no (.seq .no (.seq .no (.seq (.seq .no (.block (.loop i_SegPosts_s1 .no))) .no))))
def i_SegPosts_m (N : Nat) (c : List (List UInt8)) (c2 : List ((List (List UInt8)) × (List UInt8))) (s : List (Int × (List ((List UInt8) × (List UInt8))) × (List ((List UInt8) × Int)))) (s2 : List ((List UInt8) × (List UInt8) × (List (Int × (List Int))))) (field : List UInt8) (term : List UInt8) : Option ((List (Int × (List Int)))) :=
 (Option.bind (i_SegOk_m N c c2 s s2) fun r =>
 (bif (!r) then
 (some ([] : List (Int × (List Int))))
 else
 (Option.bind (i_Seg_posts_m N (s, s2) field term) fun r2 =>
 (iter (fun go (g : (List (Int × (List Int))) × (List (Int × (List Int))) × Int × Int) =>
 match g with
 | (out, t20, t21, t22) =>
 (bif (decide (t22 < t21)) then
 (Option.bind (idx t20 t22) fun e =>
 (if room ([] : List Int).length e.2.length 8 then
 (if room out.length ([(e.1, (([] : List Int) ++ e.2))] : List (Int × (List Int))).length 32 then
 (if fits (t22 + 1) then (go ((out ++ ([(e.1, (([] : List Int) ++ e.2))] : List (Int × (List Int)))), t20, t21, (t22 + 1))) else none)
 else none)
 else none))
 else
 (some out))) N (([] : List (Int × (List Int))), r2, (r2.length : Int), 0)))))
def i_SegPosts_M (N : Nat) : Model := ⟨i_SegPosts_arg, i_SegPosts_ret, fun a => i_SegPosts_m N a.1 a.2.1 a.2.2.1 a.2.2.2.1 a.2.2.2.2.1 a.2.2.2.2.2⟩
set_option maxRecDepth 1000000 in
theorem i_SegPosts_ok (N : Nat) : ModelOk Tryz.prog 13 (i_SegPosts_M N) :=
  modelOk_of (E := mkEnv [(8, i_SegOk_M N), (26, i_Seg_posts_M N)] [] []) (mkEnv_ok (fnsOk_cons (i_SegOk_ok N) (fnsOk_cons (i_Seg_posts_ok N) fnsOk_nil)) _ _) Tryz.func13 (by kernel_rfl) rfl N i_SegPosts_h (i_SegPosts_M N) (by kernel_rfl) (by kernel_rfl) (fun a => by kernel_rfl)
/-! loop.example/fossick/laws.foHas -/
def l_foHas_arg : Sh := ⟨[.pv (.sl .str), .pv .str], []⟩
def l_foHas_ret : Sh := ⟨[.pv .bool], []⟩
def l_foHas_s1 : Sh := ⟨.pv (.sl .str) :: .pv .str :: dz 3 (.pv (.int .i64) :: dz 12 []), []⟩
def l_foHas_h : Hint := (.seq .no (.seq (.seq .no (.block (.loop l_foHas_s1 .no))) .no))
def l_foHas_m (N : Nat) (list : List (List UInt8)) (s : List UInt8) : Option (Bool) :=
 (iter (fun go (g : (List (List UInt8)) × (List UInt8) × Int) =>
 match g with
 | (list2, s2, i) =>
 (bif (decide (i < (list2.length : Int))) then
 (Option.bind (idx list2 i) fun e =>
 (bif (decide (e = s2)) then
 (some true)
 else
 (if fits (i + 1) then (go (list2, s2, (i + 1))) else none)))
 else
 (some false))) N (list, s, 0))
def l_foHas_M (N : Nat) : Model := ⟨l_foHas_arg, l_foHas_ret, fun a => l_foHas_m N a.1 a.2⟩
set_option maxRecDepth 1000000 in
theorem l_foHas_ok (N : Nat) : ModelOk Tryz.prog 14 (l_foHas_M N) :=
  modelOk_of (E := mkEnv [] [] []) (mkEnv_ok fnsOk_nil _ _) Tryz.func14 (by kernel_rfl) rfl N l_foHas_h (l_foHas_M N) (by kernel_rfl) (by kernel_rfl) (fun a => by kernel_rfl)
/-! loop.example/fossick/laws.FnSpellOf -/
def l_FnSpellOf_arg : Sh := ⟨[.pv (.sl (.int .u8))], []⟩
def l_FnSpellOf_ret : Sh := ⟨[.pv .bool], []⟩
def l_FnSpellOf_s1 : Sh := ⟨dz 8 (.pv .str :: .own 600009 .str 9 true :: .pv (.int .i64) :: dz 125 []), []⟩
def l_FnSpellOf_s2 : Sh := ⟨dz 3 (.box 3 0 :: .box 4 0 :: .pv .str :: .dead :: .pv .str :: .pv .str :: .own 600009 .str 9 true :: .dead :: .pv (.int .i64) :: .pv (.int .i64) :: .pv (.int .i64) :: dz 122 []), [(3, false, [.own 700300 .str 9 true, .own 700301 Y14 98 true]), (4, false, [.pv Y0, .own 700401 Y3 66 false])]⟩
def l_FnSpellOf_h : Hint := (.seq .no (.seq .no (.seq .no (.seq .no (.seq .no (.seq .no (.seq .no (.seq (.seq .no (.cond (.seq (.seq .no (.block (.loop l_FnSpellOf_s1 .no))) .no) .no)) (.seq .no (.seq .no (.seq (.seq .no (.block (.loop l_FnSpellOf_s2 .no))) .no)))))))))))
def l_FnSpellOf_m (N : Nat) (code : List Int) : Option (Bool) :=
 (bif (decide ((1048576 : Int) < (code.length : Int))) then
 (some true)
 else
 (Option.bind (s_DrawSpellOf_m N code) fun r =>
 (Option.bind (i_SpellOf_m N r.1 r.2.1 r.2.2.1 r.2.2.2.1 r.2.2.2.2.1 r.2.2.2.2.2) fun r2 =>
 (Option.bind (s_SpellOf_m N r.1 r.2.1 r.2.2.1 r.2.2.2.1 r.2.2.2.2.1 r.2.2.2.2.2) fun r3 =>
 (bif (!decide (r2 = r3)) then
 (Option.bind (s_SpellOf_m N r.1 r.2.1 r.2.2.1 r.2.2.2.1 r.2.2.2.2.1 r.2.2.2.2.2) fun r4 =>
 (some (decide (r2 = r4))))
 else
 (Option.bind (i_SegOk_m N r.1 r.2.1 r.2.2.1 r.2.2.2.1) fun r5 =>
 (bif (!r5) then
 (Option.bind (s_SpellOf_m N r.1 r.2.1 r.2.2.1 r.2.2.2.1 r.2.2.2.2.1 r.2.2.2.2.2) fun r6 =>
 (some (decide (r2 = r6))))
 else
 (Option.bind (i_WordOk_m N r.2.2.2.2.2) fun r7 =>
 (bif (!r7) then
 (Option.bind (s_SpellOf_m N r.1 r.2.1 r.2.2.1 r.2.2.2.1 r.2.2.2.2.1 r.2.2.2.2.2) fun r8 =>
 (some (decide (r2 = r8))))
 else
 (Option.bind (i_StemOf_m N r.2.2.2.2.2) fun r9 =>
 (Option.bind (i_SegTerms_m N r.1 r.2.1 r.2.2.1 r.2.2.2.1 r.2.2.2.2.1) fun r10 =>
 (bif (decide (r2 = ([] : List UInt8))) then
 (iter (fun go (g : (List UInt8) × (List (List UInt8)) × Int) =>
 match g with
 | (stem, terms, i) =>
 (bif (decide (i < (terms.length : Int))) then
 (Option.bind (idx terms i) fun e =>
 (Option.bind (i_NearFar_m N e stem) fun r11 =>
 (bif (decide (r11 ≤ 2)) then
 (some false)
 else
 (if fits (i + 1) then (go (stem, terms, (i + 1))) else none))))
 else
 (some true))) N (r9, r10, 0))
 else
 (Option.bind (i_NearFar_m N r2 r9) fun r12 =>
 (Option.bind (i_SegPosts_m N r.1 r.2.1 r.2.2.1 r.2.2.2.1 r.2.2.2.2.1 r2) fun r13 =>
 (iter (fun go2 (g : (List UInt8) × (List UInt8) × (List UInt8) × (List (List UInt8)) × Int × Int × Int × (List (List UInt8)) × (List ((List (List UInt8)) × (List UInt8))) × (List (Int × (List ((List UInt8) × (List UInt8))) × (List ((List UInt8) × Int)))) × (List ((List UInt8) × (List UInt8) × (List (Int × (List Int)))))) =>
 match g with
 | (field, t, stem2, terms2, far, docs, i2, c, c2, s, s2) =>
 (bif (decide (i2 < (terms2.length : Int))) then
 (Option.bind (idx terms2 i2) fun e2 =>
 (Option.bind (i_NearFar_m N e2 stem2) fun r14 =>
 (bif (decide (r14 < far)) then
 (some false)
 else
 (bif (decide (r14 = far)) then
 (Option.bind (idx terms2 i2) fun e3 =>
 (Option.bind (i_SegPosts_m N c c2 s s2 field e3) fun r15 =>
 (bif (decide (docs < (r15.length : Int))) then
 (some false)
 else
 (if fits (i2 + 1) then (go2 (field, t, stem2, terms2, far, docs, (i2 + 1), c, c2, s, s2)) else none))))
 else
 (if fits (i2 + 1) then (go2 (field, t, stem2, terms2, far, docs, (i2 + 1), c, c2, s, s2)) else none)))))
 else
 (Option.bind (l_foHas_m N terms2 t) fun r16 =>
 (bif r16 then
 (bif (decide (far ≤ 2)) then
 (Option.bind (l_foHas_m N terms2 stem2) fun r17 =>
 (bif (!r17) then
 (some true)
 else
 (some (decide (t = stem2)))))
 else
 (some false))
 else
 (some false))))) N (r.2.2.2.2.1, r2, r9, r10, r12, (r13.length : Int), 0, r.1, r.2.1, r.2.2.1, r.2.2.2.1))))))))))))))))
def l_FnSpellOf_M (N : Nat) : Model := ⟨l_FnSpellOf_arg, l_FnSpellOf_ret, fun a => l_FnSpellOf_m N a⟩
set_option maxRecDepth 1000000 in
theorem l_FnSpellOf_ok (N : Nat) : ModelOk Tryz.prog 3 (l_FnSpellOf_M N) :=
  modelOk_of (E := mkEnv [(5, s_DrawSpellOf_M N), (6, i_SpellOf_M N), (7, s_SpellOf_M N), (8, i_SegOk_M N), (9, i_WordOk_M N), (10, i_StemOf_M N), (11, i_SegTerms_M N), (12, i_NearFar_M N), (13, i_SegPosts_M N), (14, l_foHas_M N)] [] []) (mkEnv_ok (fnsOk_cons (s_DrawSpellOf_ok N) (fnsOk_cons (i_SpellOf_ok N) (fnsOk_cons (s_SpellOf_ok N) (fnsOk_cons (i_SegOk_ok N) (fnsOk_cons (i_WordOk_ok N) (fnsOk_cons (i_StemOf_ok N) (fnsOk_cons (i_SegTerms_ok N) (fnsOk_cons (i_NearFar_ok N) (fnsOk_cons (i_SegPosts_ok N) (fnsOk_cons (l_foHas_ok N) fnsOk_nil)))))))))) _ _) Tryz.func3 (by kernel_rfl) rfl N l_FnSpellOf_h (l_FnSpellOf_M N) (by kernel_rfl) (by kernel_rfl) (fun a => by kernel_rfl)
/-! loop.example/fossick/laws.szStringS -/
/-! loop.example/fossick/laws.szSyn -/
/-! loop.example/fossick/laws.szSynS -/
/-! loop.example/fossick/laws.szConf -/
/-! loop.example/fossick/laws.szField -/
/-! loop.example/fossick/laws.szFieldS -/
/-! loop.example/fossick/laws.szAttr -/
/-! loop.example/fossick/laws.szAttrS -/
/-! loop.example/fossick/laws.szDoc -/
/-! loop.example/fossick/laws.szDocS -/
/-! loop.example/fossick/laws.szIntS -/
/-! loop.example/fossick/laws.szPost -/
/-! loop.example/fossick/laws.szPostS -/
/-! loop.example/fossick/laws.szEntry -/
/-! loop.example/fossick/laws.szEntryS -/
/-! loop.example/fossick/laws.szSeg -/
/-! loop.example/fossick/laws.toStringS -/
/-! loop.example/fossick/laws.toSyn -/
/-! loop.example/fossick/laws.toSynS -/
/-! loop.example/fossick/laws.toConf -/
/-! loop.example/fossick/laws.toField -/
/-! loop.example/fossick/laws.toFieldS -/
/-! loop.example/fossick/laws.toAttr -/
/-! loop.example/fossick/laws.toAttrS -/
/-! loop.example/fossick/laws.toDoc -/
/-! loop.example/fossick/laws.toDocS -/
/-! loop.example/fossick/laws.toIntS -/
/-! loop.example/fossick/laws.toPost -/
/-! loop.example/fossick/laws.toPostS -/
/-! loop.example/fossick/laws.toEntry -/
/-! loop.example/fossick/laws.toEntryS -/
/-! loop.example/fossick/laws.toSeg -/
/-! loop.example/fossick/laws.eqStringS -/
/-! loop.example/fossick/laws.eqSyn -/
/-! loop.example/fossick/laws.eqSynS -/
/-! loop.example/fossick/laws.eqConf -/
/-! loop.example/fossick/laws.eqField -/
/-! loop.example/fossick/laws.eqFieldS -/
/-! loop.example/fossick/laws.eqAttr -/
/-! loop.example/fossick/laws.eqAttrS -/
/-! loop.example/fossick/laws.eqDoc -/
/-! loop.example/fossick/laws.eqDocS -/
/-! loop.example/fossick/laws.eqIntS -/
/-! loop.example/fossick/laws.eqPost -/
/-! loop.example/fossick/laws.eqPostS -/
/-! loop.example/fossick/laws.eqEntry -/
/-! loop.example/fossick/laws.eqEntryS -/
/-! loop.example/fossick/laws.eqSeg -/
/-! loop.example/fossick/laws.FnExactSpellOf -/
end Go.Proofs.YtcjbjmbialienaaGreat
