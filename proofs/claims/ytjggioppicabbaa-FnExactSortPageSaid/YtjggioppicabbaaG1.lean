import Derived.Test.YtjggioppicabbaaG1A
set_option linter.unusedVariables false
set_option linter.unusedSimpArgs false
namespace Go.Proofs.Ytjggioppicabbaa
open Go.RowKit
def k_slices_partitionCmpFunc_789_arg : Sh := ⟨[.mtk 800000 (.pair (.int .i64) (.pair (.sl (.pair .str .str)) (.sl (.pair .str (.int .i64))))) 33 false, .pv (.int .i64), .pv (.int .i64), .pv (.int .i64), .clo 59 [.ptr (.sl (.pair .str .bool))]], []⟩
def k_slices_partitionCmpFunc_789_ret : Sh := ⟨[.tup [.pv (.int .i64), .pv .bool], .mtk 800000 (.pair (.int .i64) (.pair (.sl (.pair .str .str)) (.sl (.pair .str (.int .i64))))) 33 false], []⟩
def k_slices_partitionCmpFunc_789_s1 : Sh := ⟨[.mtk 800000 (.pair (.int .i64) (.pair (.sl (.pair .str .str)) (.sl (.pair .str (.int .i64))))) 33 false, .pv (.int .i64), .dead, .dead, .clo 59 [.ptr (.sl (.pair .str .bool))], .dead, .dead, .dead, .dead, .dead, .dead, .dead, .pv (.int .i64), .pv (.int .i64), .dead, .dead, .dead, .dead, .dead, .dead, .dead, .dead, .dead, .dead, .dead, .dead, .dead, .dead, .dead, .dead, .dead, .dead, .dead, .dead, .dead, .dead, .dead, .dead, .dead, .dead, .dead, .dead, .dead, .dead, .dead, .dead, .dead, .dead, .dead, .dead, .dead, .dead, .dead, .dead, .dead, .dead, .dead, .dead, .dead, .dead, .dead, .dead, .dead, .dead, .dead, .dead, .dead, .dead, .dead, .dead, .dead, .dead, .dead, .dead, .dead, .dead, .dead, .dead, .dead, .dead, .dead, .dead, .dead, .dead, .dead, .dead, .dead, .dead, .dead, .dead, .dead, .dead, .dead, .dead, .dead, .dead, .dead, .dead, .dead, .dead, .dead, .dead, .dead, .dead, .dead, .dead, .dead, .dead, .dead, .dead, .dead, .dead, .dead, .dead, .dead, .dead, .dead, .dead, .dead, .dead, .dead, .dead, .dead, .dead, .dead, .dead, .dead, .dead, .dead, .dead, .dead, .dead, .dead, .dead, .dead, .dead, .dead, .dead, .dead, .dead, .dead, .dead, .dead, .dead, .dead, .dead, .dead, .dead, .dead, .dead, .dead, .dead, .dead, .dead, .dead, .dead, .dead, .dead, .dead, .dead, .dead, .dead, .dead, .dead, .dead, .dead, .dead, .dead, .dead, .dead, .dead, .dead, .dead, .dead, .dead, .dead, .dead, .dead], []⟩
def k_slices_partitionCmpFunc_789_s2 : Sh := ⟨[.mtk 800000 (.pair (.int .i64) (.pair (.sl (.pair .str .str)) (.sl (.pair .str (.int .i64))))) 33 false, .pv (.int .i64), .dead, .dead, .clo 59 [.ptr (.sl (.pair .str .bool))], .dead, .dead, .dead, .dead, .dead, .dead, .dead, .pv (.int .i64), .pv (.int .i64), .dead, .dead, .dead, .dead, .dead, .dead, .dead, .dead, .dead, .dead, .dead, .dead, .dead, .dead, .dead, .dead, .dead, .dead, .dead, .dead, .dead, .dead, .dead, .dead, .dead, .dead, .dead, .dead, .dead, .dead, .dead, .dead, .dead, .dead, .dead, .dead, .dead, .dead, .dead, .dead, .dead, .dead, .dead, .dead, .dead, .dead, .dead, .dead, .dead, .dead, .dead, .dead, .dead, .dead, .dead, .dead, .dead, .dead, .dead, .dead, .dead, .dead, .dead, .dead, .dead, .dead, .dead, .dead, .dead, .dead, .dead, .dead, .dead, .dead, .dead, .dead, .dead, .dead, .dead, .dead, .dead, .dead, .dead, .dead, .dead, .dead, .dead, .dead, .dead, .dead, .dead, .dead, .dead, .dead, .dead, .dead, .dead, .dead, .dead, .dead, .dead, .dead, .dead, .dead, .dead, .dead, .dead, .dead, .dead, .dead, .dead, .dead, .dead, .dead, .dead, .dead, .dead, .dead, .dead, .dead, .dead, .dead, .dead, .dead, .dead, .dead, .dead, .dead, .dead, .dead, .dead, .dead, .dead, .dead, .dead, .dead, .dead, .dead, .dead, .dead, .dead, .dead, .dead, .dead, .dead, .dead, .dead, .dead, .dead, .dead, .dead, .dead, .dead, .dead, .dead, .dead, .dead, .dead, .dead, .dead, .dead, .dead, .dead, .dead], []⟩
def k_slices_partitionCmpFunc_789_s3 : Sh := ⟨[.mtk 800000 (.pair (.int .i64) (.pair (.sl (.pair .str .str)) (.sl (.pair .str (.int .i64))))) 33 false, .pv (.int .i64), .dead, .dead, .clo 59 [.ptr (.sl (.pair .str .bool))], .dead, .dead, .dead, .dead, .dead, .dead, .dead, .pv (.int .i64), .pv (.int .i64), .dead, .dead, .dead, .dead, .dead, .dead, .dead, .dead, .dead, .dead, .dead, .dead, .dead, .dead, .dead, .dead, .dead, .dead, .dead, .dead, .dead, .dead, .dead, .dead, .dead, .dead, .dead, .dead, .dead, .dead, .dead, .dead, .dead, .dead, .dead, .dead, .dead, .dead, .dead, .dead, .dead, .dead, .dead, .dead, .dead, .dead, .dead, .dead, .dead, .dead, .dead, .dead, .dead, .dead, .dead, .dead, .dead, .dead, .dead, .dead, .dead, .dead, .dead, .dead, .dead, .dead, .dead, .dead, .dead, .dead, .dead, .dead, .dead, .dead, .dead, .dead, .dead, .dead, .dead, .dead, .dead, .dead, .dead, .dead, .dead, .dead, .dead, .dead, .dead, .dead, .dead, .dead, .dead, .dead, .dead, .dead, .dead, .dead, .dead, .dead, .dead, .dead, .dead, .dead, .dead, .dead, .dead, .dead, .dead, .dead, .dead, .dead, .dead, .dead, .dead, .dead, .dead, .dead, .dead, .dead, .dead, .dead, .dead, .dead, .dead, .dead, .dead, .dead, .dead, .dead, .dead, .dead, .dead, .dead, .dead, .dead, .dead, .dead, .dead, .dead, .dead, .dead, .dead, .dead, .dead, .dead, .dead, .dead, .dead, .dead, .dead, .dead, .dead, .dead, .dead, .dead, .dead, .dead, .dead, .dead, .dead, .dead, .dead, .dead], []⟩
def k_slices_partitionCmpFunc_789_s4 : Sh := ⟨[.mtk 800000 (.pair (.int .i64) (.pair (.sl (.pair .str .str)) (.sl (.pair .str (.int .i64))))) 33 false, .pv (.int .i64), .dead, .dead, .clo 59 [.ptr (.sl (.pair .str .bool))], .dead, .dead, .dead, .dead, .dead, .dead, .dead, .pv (.int .i64), .pv (.int .i64), .dead, .dead, .dead, .dead, .dead, .dead, .dead, .dead, .dead, .dead, .dead, .dead, .dead, .dead, .dead, .dead, .dead, .dead, .dead, .dead, .dead, .dead, .dead, .dead, .dead, .dead, .dead, .dead, .dead, .dead, .dead, .dead, .dead, .dead, .dead, .dead, .dead, .dead, .dead, .dead, .dead, .dead, .dead, .dead, .dead, .dead, .dead, .dead, .dead, .dead, .dead, .dead, .dead, .dead, .dead, .dead, .dead, .dead, .dead, .dead, .dead, .dead, .dead, .dead, .dead, .dead, .dead, .dead, .dead, .dead, .dead, .dead, .dead, .dead, .dead, .dead, .dead, .dead, .dead, .dead, .dead, .dead, .dead, .dead, .dead, .dead, .dead, .dead, .dead, .dead, .dead, .dead, .dead, .dead, .dead, .dead, .dead, .dead, .dead, .dead, .dead, .dead, .dead, .dead, .dead, .dead, .dead, .dead, .dead, .dead, .dead, .dead, .dead, .dead, .dead, .dead, .dead, .dead, .dead, .dead, .dead, .dead, .dead, .dead, .dead, .dead, .dead, .dead, .dead, .dead, .dead, .dead, .dead, .dead, .dead, .dead, .dead, .dead, .dead, .dead, .dead, .dead, .dead, .dead, .dead, .dead, .dead, .dead, .dead, .dead, .dead, .dead, .dead, .dead, .dead, .dead, .dead, .dead, .dead, .dead, .dead, .dead, .dead, .dead], []⟩
def k_slices_partitionCmpFunc_789_s5 : Sh := ⟨[.mtk 800000 (.pair (.int .i64) (.pair (.sl (.pair .str .str)) (.sl (.pair .str (.int .i64))))) 33 false, .pv (.int .i64), .dead, .dead, .clo 59 [.ptr (.sl (.pair .str .bool))], .dead, .dead, .dead, .dead, .dead, .dead, .dead, .pv (.int .i64), .pv (.int .i64), .dead, .dead, .dead, .dead, .dead, .dead, .dead, .dead, .dead, .dead, .dead, .dead, .dead, .dead, .dead, .dead, .dead, .dead, .dead, .dead, .dead, .dead, .dead, .dead, .dead, .dead, .dead, .dead, .dead, .dead, .dead, .dead, .dead, .dead, .dead, .dead, .dead, .dead, .dead, .dead, .dead, .dead, .dead, .dead, .dead, .dead, .dead, .dead, .dead, .dead, .dead, .dead, .dead, .dead, .dead, .dead, .dead, .dead, .dead, .dead, .dead, .dead, .dead, .dead, .dead, .dead, .dead, .dead, .dead, .dead, .dead, .dead, .dead, .dead, .dead, .dead, .dead, .dead, .dead, .dead, .dead, .dead, .dead, .dead, .dead, .dead, .dead, .dead, .dead, .dead, .dead, .dead, .dead, .dead, .dead, .dead, .dead, .dead, .dead, .dead, .dead, .dead, .dead, .dead, .dead, .dead, .dead, .dead, .dead, .dead, .dead, .dead, .dead, .dead, .dead, .dead, .dead, .dead, .dead, .dead, .dead, .dead, .dead, .dead, .dead, .dead, .dead, .dead, .dead, .dead, .dead, .dead, .dead, .dead, .dead, .dead, .dead, .dead, .dead, .dead, .dead, .dead, .dead, .dead, .dead, .dead, .dead, .dead, .dead, .dead, .dead, .dead, .dead, .dead, .dead, .dead, .dead, .dead, .dead, .dead, .dead, .dead, .dead, .dead], []⟩
def k_slices_partitionCmpFunc_789_h : Hint := (.seq .no (.seq .no (.seq .no (.seq (.block (.loop k_slices_partitionCmpFunc_789_s1 .no)) (.seq (.block (.loop k_slices_partitionCmpFunc_789_s2 .no)) (.seq .no (.seq .no (.seq .no (.seq .no (.seq (.block (.loop k_slices_partitionCmpFunc_789_s3 (.block (.seq (.block (.loop k_slices_partitionCmpFunc_789_s4 .no)) (.seq (.block (.loop k_slices_partitionCmpFunc_789_s5 .no)) .no))))) .no))))))))))
def k_slices_partitionCmpFunc_789_m (N : Nat) (data : List (Int × (List ((List UInt8) × (List UInt8))) × (List ((List UInt8) × Int)))) (a : Int) (b : Int) (pivot : Int) (cmp : List ((List UInt8) × Bool)) : Option (Int × Bool × (List (Int × (List ((List UInt8) × (List UInt8))) × (List ((List UInt8) × Int))))) :=
  (if 0 ≤ pivot ∧ pivot < (data.length : Int) then
    (Option.bind (data[pivot.toNat]?) fun (e : Int × (List ((List UInt8) × (List UInt8))) × (List ((List UInt8) × Int))) =>
      (if 0 ≤ a ∧ a < (data.length : Int) then
        (Option.bind (data[a.toNat]?) fun (e2 : Int × (List ((List UInt8) × (List UInt8))) × (List ((List UInt8) × Int))) =>
          (if 0 ≤ a ∧ a < (data.length : Int) then
            (Option.bind (data[a.toNat]?) fun (e3 : Int × (List ((List UInt8) × (List UInt8))) × (List ((List UInt8) × Int))) =>
              (if 0 ≤ pivot ∧ pivot < ((data.set a.toNat e).length : Int) then
                (Option.bind ((data.set a.toNat e)[pivot.toNat]?) fun (e4 : Int × (List ((List UInt8) × (List UInt8))) × (List ((List UInt8) × Int))) =>
                  (if fits (a + 1) then (if fits (b - 1) then (iter (fun (go : ((List (Int × (List ((List UInt8) × (List UInt8))) × (List ((List UInt8) × Int)))) × Int × (List ((List UInt8) × Bool)) × Int × Int) → Option (Int × Bool × (List (Int × (List ((List UInt8) × (List UInt8))) × (List ((List UInt8) × Int)))))) (g : (List (Int × (List ((List UInt8) × (List UInt8))) × (List ((List UInt8) × Int)))) × Int × (List ((List UInt8) × Bool)) × Int × Int) => 
                          match g with
                          | (data2, a2, cmp2, i, j) =>
                          (bif (decide (i ≤ j)) then
                            (if 0 ≤ i ∧ i < (data2.length : Int) then
                              (Option.bind (data2[i.toNat]?) fun (e5 : Int × (List ((List UInt8) × (List UInt8))) × (List ((List UInt8) × Int))) =>
                                (if 0 ≤ a2 ∧ a2 < (data2.length : Int) then
                                  (Option.bind (data2[a2.toNat]?) fun (e6 : Int × (List ((List UInt8) × (List UInt8))) × (List ((List UInt8) × Int))) =>
                                    (Option.bind (i_SortOf_1_m N e5.1 e5.2.1 e5.2.2 e6.1 e6.2.1 e6.2.2 cmp2) fun (r : Int) =>
                                      (bif (decide (r < 0)) then
                                        (if fits (i + 1) then (go (data2, a2, cmp2, (i + 1), j)) else none)
                                        else
                                        (iter (fun (go2 : ((List (Int × (List ((List UInt8) × (List UInt8))) × (List ((List UInt8) × Int)))) × Int × (List ((List UInt8) × Bool)) × Int × Int) → Option (Int × Bool × (List (Int × (List ((List UInt8) × (List UInt8))) × (List ((List UInt8) × Int)))))) (g : (List (Int × (List ((List UInt8) × (List UInt8))) × (List ((List UInt8) × Int)))) × Int × (List ((List UInt8) × Bool)) × Int × Int) => 
                                            match g with
                                            | (data3, a3, cmp3, i2, j2) =>
                                            (bif (decide (i2 ≤ j2)) then
                                              (if 0 ≤ j2 ∧ j2 < (data3.length : Int) then
                                                (Option.bind (data3[j2.toNat]?) fun (e7 : Int × (List ((List UInt8) × (List UInt8))) × (List ((List UInt8) × Int))) =>
                                                  (if 0 ≤ a3 ∧ a3 < (data3.length : Int) then
                                                    (Option.bind (data3[a3.toNat]?) fun (e8 : Int × (List ((List UInt8) × (List UInt8))) × (List ((List UInt8) × Int))) =>
                                                      (Option.bind (i_SortOf_1_m N e7.1 e7.2.1 e7.2.2 e8.1 e8.2.1 e8.2.2 cmp3) fun (r2 : Int) =>
                                                        (bif (!(decide (r2 < 0))) then
                                                          (if fits (j2 - 1) then (go2 (data3, a3, cmp3, i2, (j2 - 1))) else none)
                                                          else
                                                          (bif (decide (j2 < i2)) then
                                                            (if 0 ≤ a3 ∧ a3 < (data3.length : Int) then
                                                              (Option.bind (data3[a3.toNat]?) fun (e9 : Int × (List ((List UInt8) × (List UInt8))) × (List ((List UInt8) × Int))) =>
                                                                (if 0 ≤ j2 ∧ j2 < (data3.length : Int) then
                                                                  (Option.bind (data3[j2.toNat]?) fun (e10 : Int × (List ((List UInt8) × (List UInt8))) × (List ((List UInt8) × Int))) =>
                                                                    (if 0 ≤ j2 ∧ j2 < (data3.length : Int) then
                                                                      (Option.bind (data3[j2.toNat]?) fun (e11 : Int × (List ((List UInt8) × (List UInt8))) × (List ((List UInt8) × Int))) =>
                                                                        (if 0 ≤ a3 ∧ a3 < ((data3.set j2.toNat e9).length : Int) then
                                                                          (Option.bind ((data3.set j2.toNat e9)[a3.toNat]?) fun (e12 : Int × (List ((List UInt8) × (List UInt8))) × (List ((List UInt8) × Int))) =>
                                                                            (some (j2, true, ((data3.set j2.toNat e9).set a3.toNat e10))))
                                                                          else none))
                                                                      else none))
                                                                  else none))
                                                              else none)
                                                            else
                                                            (if 0 ≤ j2 ∧ j2 < (data3.length : Int) then
                                                              (Option.bind (data3[j2.toNat]?) fun (e13 : Int × (List ((List UInt8) × (List UInt8))) × (List ((List UInt8) × Int))) =>
                                                                (if 0 ≤ i2 ∧ i2 < (data3.length : Int) then
                                                                  (Option.bind (data3[i2.toNat]?) fun (e14 : Int × (List ((List UInt8) × (List UInt8))) × (List ((List UInt8) × Int))) =>
                                                                    (if 0 ≤ i2 ∧ i2 < (data3.length : Int) then
                                                                      (Option.bind (data3[i2.toNat]?) fun (e15 : Int × (List ((List UInt8) × (List UInt8))) × (List ((List UInt8) × Int))) =>
                                                                        (if 0 ≤ j2 ∧ j2 < ((data3.set i2.toNat e13).length : Int) then
                                                                          (Option.bind ((data3.set i2.toNat e13)[j2.toNat]?) fun (e16 : Int × (List ((List UInt8) × (List UInt8))) × (List ((List UInt8) × Int))) =>
                                                                            (if fits (i2 + 1) then (if fits (j2 - 1) then (iter (fun (go3 : ((List (Int × (List ((List UInt8) × (List UInt8))) × (List ((List UInt8) × Int)))) × Int × (List ((List UInt8) × Bool)) × Int × Int) → Option (Int × Bool × (List (Int × (List ((List UInt8) × (List UInt8))) × (List ((List UInt8) × Int)))))) (g : (List (Int × (List ((List UInt8) × (List UInt8))) × (List ((List UInt8) × Int)))) × Int × (List ((List UInt8) × Bool)) × Int × Int) => 
                                                                                match g with
                                                                                | (data4, a4, cmp4, i3, j3) =>
                                                                                (iter (fun (go4 : ((List (Int × (List ((List UInt8) × (List UInt8))) × (List ((List UInt8) × Int)))) × Int × (List ((List UInt8) × Bool)) × Int × Int) → Option (Int × Bool × (List (Int × (List ((List UInt8) × (List UInt8))) × (List ((List UInt8) × Int)))))) (g : (List (Int × (List ((List UInt8) × (List UInt8))) × (List ((List UInt8) × Int)))) × Int × (List ((List UInt8) × Bool)) × Int × Int) => 
                                                                                match g with
                                                                                | (data5, a5, cmp5, i4, j4) =>
                                                                                (bif (decide (i4 ≤ j4)) then
                                                                                (if 0 ≤ i4 ∧ i4 < (data5.length : Int) then
                                                                                (Option.bind (data5[i4.toNat]?) fun (e17 : Int × (List ((List UInt8) × (List UInt8))) × (List ((List UInt8) × Int))) =>
                                                                                (if 0 ≤ a5 ∧ a5 < (data5.length : Int) then
                                                                                (Option.bind (data5[a5.toNat]?) fun (e18 : Int × (List ((List UInt8) × (List UInt8))) × (List ((List UInt8) × Int))) =>
                                                                                (Option.bind (i_SortOf_1_m N e17.1 e17.2.1 e17.2.2 e18.1 e18.2.1 e18.2.2 cmp5) fun (r3 : Int) =>
                                                                                (bif (decide (r3 < 0)) then
                                                                                (if fits (i4 + 1) then (go4 (data5, a5, cmp5, (i4 + 1), j4)) else none)
                                                                                else
                                                                                (iter (fun (go5 : ((List (Int × (List ((List UInt8) × (List UInt8))) × (List ((List UInt8) × Int)))) × Int × (List ((List UInt8) × Bool)) × Int × Int) → Option (Int × Bool × (List (Int × (List ((List UInt8) × (List UInt8))) × (List ((List UInt8) × Int)))))) (g : (List (Int × (List ((List UInt8) × (List UInt8))) × (List ((List UInt8) × Int)))) × Int × (List ((List UInt8) × Bool)) × Int × Int) => 
                                                                                match g with
                                                                                | (data6, a6, cmp6, i5, j5) =>
                                                                                (bif (decide (i5 ≤ j5)) then
                                                                                (if 0 ≤ j5 ∧ j5 < (data6.length : Int) then
                                                                                (Option.bind (data6[j5.toNat]?) fun (e19 : Int × (List ((List UInt8) × (List UInt8))) × (List ((List UInt8) × Int))) =>
                                                                                (if 0 ≤ a6 ∧ a6 < (data6.length : Int) then
                                                                                (Option.bind (data6[a6.toNat]?) fun (e20 : Int × (List ((List UInt8) × (List UInt8))) × (List ((List UInt8) × Int))) =>
                                                                                (Option.bind (i_SortOf_1_m N e19.1 e19.2.1 e19.2.2 e20.1 e20.2.1 e20.2.2 cmp6) fun (r4 : Int) =>
                                                                                (bif (!(decide (r4 < 0))) then
                                                                                (if fits (j5 - 1) then (go5 (data6, a6, cmp6, i5, (j5 - 1))) else none)
                                                                                else
                                                                                (bif (decide (j5 < i5)) then
                                                                                (if 0 ≤ a6 ∧ a6 < (data6.length : Int) then
                                                                                (Option.bind (data6[a6.toNat]?) fun (e21 : Int × (List ((List UInt8) × (List UInt8))) × (List ((List UInt8) × Int))) =>
                                                                                (if 0 ≤ j5 ∧ j5 < (data6.length : Int) then
                                                                                (Option.bind (data6[j5.toNat]?) fun (e22 : Int × (List ((List UInt8) × (List UInt8))) × (List ((List UInt8) × Int))) =>
                                                                                (if 0 ≤ j5 ∧ j5 < (data6.length : Int) then
                                                                                (Option.bind (data6[j5.toNat]?) fun (e23 : Int × (List ((List UInt8) × (List UInt8))) × (List ((List UInt8) × Int))) =>
                                                                                (if 0 ≤ a6 ∧ a6 < ((data6.set j5.toNat e21).length : Int) then
                                                                                (Option.bind ((data6.set j5.toNat e21)[a6.toNat]?) fun (e24 : Int × (List ((List UInt8) × (List UInt8))) × (List ((List UInt8) × Int))) =>
                                                                                (some (j5, false, ((data6.set j5.toNat e21).set a6.toNat e22))))
                                                                                else none))
                                                                                else none))
                                                                                else none))
                                                                                else none)
                                                                                else
                                                                                (if 0 ≤ j5 ∧ j5 < (data6.length : Int) then
                                                                                (Option.bind (data6[j5.toNat]?) fun (e25 : Int × (List ((List UInt8) × (List UInt8))) × (List ((List UInt8) × Int))) =>
                                                                                (if 0 ≤ i5 ∧ i5 < (data6.length : Int) then
                                                                                (Option.bind (data6[i5.toNat]?) fun (e26 : Int × (List ((List UInt8) × (List UInt8))) × (List ((List UInt8) × Int))) =>
                                                                                (if 0 ≤ i5 ∧ i5 < (data6.length : Int) then
                                                                                (Option.bind (data6[i5.toNat]?) fun (e27 : Int × (List ((List UInt8) × (List UInt8))) × (List ((List UInt8) × Int))) =>
                                                                                (if 0 ≤ j5 ∧ j5 < ((data6.set i5.toNat e25).length : Int) then
                                                                                (Option.bind ((data6.set i5.toNat e25)[j5.toNat]?) fun (e28 : Int × (List ((List UInt8) × (List UInt8))) × (List ((List UInt8) × Int))) =>
                                                                                (if fits (i5 + 1) then (if fits (j5 - 1) then (go3 (((data6.set i5.toNat e25).set j5.toNat e26), a6, cmp6, (i5 + 1), (j5 - 1))) else none) else none))
                                                                                else none))
                                                                                else none))
                                                                                else none))
                                                                                else none)))))
                                                                                else none))
                                                                                else none)
                                                                                else
                                                                                (bif (decide (j5 < i5)) then
                                                                                (if 0 ≤ a6 ∧ a6 < (data6.length : Int) then
                                                                                (Option.bind (data6[a6.toNat]?) fun (e29 : Int × (List ((List UInt8) × (List UInt8))) × (List ((List UInt8) × Int))) =>
                                                                                (if 0 ≤ j5 ∧ j5 < (data6.length : Int) then
                                                                                (Option.bind (data6[j5.toNat]?) fun (e30 : Int × (List ((List UInt8) × (List UInt8))) × (List ((List UInt8) × Int))) =>
                                                                                (if 0 ≤ j5 ∧ j5 < (data6.length : Int) then
                                                                                (Option.bind (data6[j5.toNat]?) fun (e31 : Int × (List ((List UInt8) × (List UInt8))) × (List ((List UInt8) × Int))) =>
                                                                                (if 0 ≤ a6 ∧ a6 < ((data6.set j5.toNat e29).length : Int) then
                                                                                (Option.bind ((data6.set j5.toNat e29)[a6.toNat]?) fun (e32 : Int × (List ((List UInt8) × (List UInt8))) × (List ((List UInt8) × Int))) =>
                                                                                (some (j5, false, ((data6.set j5.toNat e29).set a6.toNat e30))))
                                                                                else none))
                                                                                else none))
                                                                                else none))
                                                                                else none)
                                                                                else
                                                                                (if 0 ≤ j5 ∧ j5 < (data6.length : Int) then
                                                                                (Option.bind (data6[j5.toNat]?) fun (e33 : Int × (List ((List UInt8) × (List UInt8))) × (List ((List UInt8) × Int))) =>
                                                                                (if 0 ≤ i5 ∧ i5 < (data6.length : Int) then
                                                                                (Option.bind (data6[i5.toNat]?) fun (e34 : Int × (List ((List UInt8) × (List UInt8))) × (List ((List UInt8) × Int))) =>
                                                                                (if 0 ≤ i5 ∧ i5 < (data6.length : Int) then
                                                                                (Option.bind (data6[i5.toNat]?) fun (e35 : Int × (List ((List UInt8) × (List UInt8))) × (List ((List UInt8) × Int))) =>
                                                                                (if 0 ≤ j5 ∧ j5 < ((data6.set i5.toNat e33).length : Int) then
                                                                                (Option.bind ((data6.set i5.toNat e33)[j5.toNat]?) fun (e36 : Int × (List ((List UInt8) × (List UInt8))) × (List ((List UInt8) × Int))) =>
                                                                                (if fits (i5 + 1) then (if fits (j5 - 1) then (go3 (((data6.set i5.toNat e33).set j5.toNat e34), a6, cmp6, (i5 + 1), (j5 - 1))) else none) else none))
                                                                                else none))
                                                                                else none))
                                                                                else none))
                                                                                else none)))) N (data5, a5, cmp5, i4, j4)))))
                                                                                else none))
                                                                                else none)
                                                                                else
                                                                                (iter (fun (go6 : ((List (Int × (List ((List UInt8) × (List UInt8))) × (List ((List UInt8) × Int)))) × Int × (List ((List UInt8) × Bool)) × Int × Int) → Option (Int × Bool × (List (Int × (List ((List UInt8) × (List UInt8))) × (List ((List UInt8) × Int)))))) (g : (List (Int × (List ((List UInt8) × (List UInt8))) × (List ((List UInt8) × Int)))) × Int × (List ((List UInt8) × Bool)) × Int × Int) => 
                                                                                match g with
                                                                                | (data7, a7, cmp7, i6, j6) =>
                                                                                (bif (decide (i6 ≤ j6)) then
                                                                                (if 0 ≤ j6 ∧ j6 < (data7.length : Int) then
                                                                                (Option.bind (data7[j6.toNat]?) fun (e37 : Int × (List ((List UInt8) × (List UInt8))) × (List ((List UInt8) × Int))) =>
                                                                                (if 0 ≤ a7 ∧ a7 < (data7.length : Int) then
                                                                                (Option.bind (data7[a7.toNat]?) fun (e38 : Int × (List ((List UInt8) × (List UInt8))) × (List ((List UInt8) × Int))) =>
                                                                                (Option.bind (i_SortOf_1_m N e37.1 e37.2.1 e37.2.2 e38.1 e38.2.1 e38.2.2 cmp7) fun (r5 : Int) =>
                                                                                (bif (!(decide (r5 < 0))) then
                                                                                (if fits (j6 - 1) then (go6 (data7, a7, cmp7, i6, (j6 - 1))) else none)
                                                                                else
                                                                                (bif (decide (j6 < i6)) then
                                                                                (if 0 ≤ a7 ∧ a7 < (data7.length : Int) then
                                                                                (Option.bind (data7[a7.toNat]?) fun (e39 : Int × (List ((List UInt8) × (List UInt8))) × (List ((List UInt8) × Int))) =>
                                                                                (if 0 ≤ j6 ∧ j6 < (data7.length : Int) then
                                                                                (Option.bind (data7[j6.toNat]?) fun (e40 : Int × (List ((List UInt8) × (List UInt8))) × (List ((List UInt8) × Int))) =>
                                                                                (if 0 ≤ j6 ∧ j6 < (data7.length : Int) then
                                                                                (Option.bind (data7[j6.toNat]?) fun (e41 : Int × (List ((List UInt8) × (List UInt8))) × (List ((List UInt8) × Int))) =>
                                                                                (if 0 ≤ a7 ∧ a7 < ((data7.set j6.toNat e39).length : Int) then
                                                                                (Option.bind ((data7.set j6.toNat e39)[a7.toNat]?) fun (e42 : Int × (List ((List UInt8) × (List UInt8))) × (List ((List UInt8) × Int))) =>
                                                                                (some (j6, false, ((data7.set j6.toNat e39).set a7.toNat e40))))
                                                                                else none))
                                                                                else none))
                                                                                else none))
                                                                                else none)
                                                                                else
                                                                                (if 0 ≤ j6 ∧ j6 < (data7.length : Int) then
                                                                                (Option.bind (data7[j6.toNat]?) fun (e43 : Int × (List ((List UInt8) × (List UInt8))) × (List ((List UInt8) × Int))) =>
                                                                                (if 0 ≤ i6 ∧ i6 < (data7.length : Int) then
                                                                                (Option.bind (data7[i6.toNat]?) fun (e44 : Int × (List ((List UInt8) × (List UInt8))) × (List ((List UInt8) × Int))) =>
                                                                                (if 0 ≤ i6 ∧ i6 < (data7.length : Int) then
                                                                                (Option.bind (data7[i6.toNat]?) fun (e45 : Int × (List ((List UInt8) × (List UInt8))) × (List ((List UInt8) × Int))) =>
                                                                                (if 0 ≤ j6 ∧ j6 < ((data7.set i6.toNat e43).length : Int) then
                                                                                (Option.bind ((data7.set i6.toNat e43)[j6.toNat]?) fun (e46 : Int × (List ((List UInt8) × (List UInt8))) × (List ((List UInt8) × Int))) =>
                                                                                (if fits (i6 + 1) then (if fits (j6 - 1) then (go3 (((data7.set i6.toNat e43).set j6.toNat e44), a7, cmp7, (i6 + 1), (j6 - 1))) else none) else none))
                                                                                else none))
                                                                                else none))
                                                                                else none))
                                                                                else none)))))
                                                                                else none))
                                                                                else none)
                                                                                else
                                                                                (bif (decide (j6 < i6)) then
                                                                                (if 0 ≤ a7 ∧ a7 < (data7.length : Int) then
                                                                                (Option.bind (data7[a7.toNat]?) fun (e47 : Int × (List ((List UInt8) × (List UInt8))) × (List ((List UInt8) × Int))) =>
                                                                                (if 0 ≤ j6 ∧ j6 < (data7.length : Int) then
                                                                                (Option.bind (data7[j6.toNat]?) fun (e48 : Int × (List ((List UInt8) × (List UInt8))) × (List ((List UInt8) × Int))) =>
                                                                                (if 0 ≤ j6 ∧ j6 < (data7.length : Int) then
                                                                                (Option.bind (data7[j6.toNat]?) fun (e49 : Int × (List ((List UInt8) × (List UInt8))) × (List ((List UInt8) × Int))) =>
                                                                                (if 0 ≤ a7 ∧ a7 < ((data7.set j6.toNat e47).length : Int) then
                                                                                (Option.bind ((data7.set j6.toNat e47)[a7.toNat]?) fun (e50 : Int × (List ((List UInt8) × (List UInt8))) × (List ((List UInt8) × Int))) =>
                                                                                (some (j6, false, ((data7.set j6.toNat e47).set a7.toNat e48))))
                                                                                else none))
                                                                                else none))
                                                                                else none))
                                                                                else none)
                                                                                else
                                                                                (if 0 ≤ j6 ∧ j6 < (data7.length : Int) then
                                                                                (Option.bind (data7[j6.toNat]?) fun (e51 : Int × (List ((List UInt8) × (List UInt8))) × (List ((List UInt8) × Int))) =>
                                                                                (if 0 ≤ i6 ∧ i6 < (data7.length : Int) then
                                                                                (Option.bind (data7[i6.toNat]?) fun (e52 : Int × (List ((List UInt8) × (List UInt8))) × (List ((List UInt8) × Int))) =>
                                                                                (if 0 ≤ i6 ∧ i6 < (data7.length : Int) then
                                                                                (Option.bind (data7[i6.toNat]?) fun (e53 : Int × (List ((List UInt8) × (List UInt8))) × (List ((List UInt8) × Int))) =>
                                                                                (if 0 ≤ j6 ∧ j6 < ((data7.set i6.toNat e51).length : Int) then
                                                                                (Option.bind ((data7.set i6.toNat e51)[j6.toNat]?) fun (e54 : Int × (List ((List UInt8) × (List UInt8))) × (List ((List UInt8) × Int))) =>
                                                                                (if fits (i6 + 1) then (if fits (j6 - 1) then (go3 (((data7.set i6.toNat e51).set j6.toNat e52), a7, cmp7, (i6 + 1), (j6 - 1))) else none) else none))
                                                                                else none))
                                                                                else none))
                                                                                else none))
                                                                                else none)))) N (data5, a5, cmp5, i4, j4)))) N (data4, a4, cmp4, i3, j3))) N (((data3.set i2.toNat e13).set j2.toNat e14), a3, cmp3, (i2 + 1), (j2 - 1))) else none) else none))
                                                                          else none))
                                                                      else none))
                                                                  else none))
                                                              else none)))))
                                                    else none))
                                                else none)
                                              else
                                              (bif (decide (j2 < i2)) then
                                                (if 0 ≤ a3 ∧ a3 < (data3.length : Int) then
                                                  (Option.bind (data3[a3.toNat]?) fun (e55 : Int × (List ((List UInt8) × (List UInt8))) × (List ((List UInt8) × Int))) =>
                                                    (if 0 ≤ j2 ∧ j2 < (data3.length : Int) then
                                                      (Option.bind (data3[j2.toNat]?) fun (e56 : Int × (List ((List UInt8) × (List UInt8))) × (List ((List UInt8) × Int))) =>
                                                        (if 0 ≤ j2 ∧ j2 < (data3.length : Int) then
                                                          (Option.bind (data3[j2.toNat]?) fun (e57 : Int × (List ((List UInt8) × (List UInt8))) × (List ((List UInt8) × Int))) =>
                                                            (if 0 ≤ a3 ∧ a3 < ((data3.set j2.toNat e55).length : Int) then
                                                              (Option.bind ((data3.set j2.toNat e55)[a3.toNat]?) fun (e58 : Int × (List ((List UInt8) × (List UInt8))) × (List ((List UInt8) × Int))) =>
                                                                (some (j2, true, ((data3.set j2.toNat e55).set a3.toNat e56))))
                                                              else none))
                                                          else none))
                                                      else none))
                                                  else none)
                                                else
                                                (if 0 ≤ j2 ∧ j2 < (data3.length : Int) then
                                                  (Option.bind (data3[j2.toNat]?) fun (e59 : Int × (List ((List UInt8) × (List UInt8))) × (List ((List UInt8) × Int))) =>
                                                    (if 0 ≤ i2 ∧ i2 < (data3.length : Int) then
                                                      (Option.bind (data3[i2.toNat]?) fun (e60 : Int × (List ((List UInt8) × (List UInt8))) × (List ((List UInt8) × Int))) =>
                                                        (if 0 ≤ i2 ∧ i2 < (data3.length : Int) then
                                                          (Option.bind (data3[i2.toNat]?) fun (e61 : Int × (List ((List UInt8) × (List UInt8))) × (List ((List UInt8) × Int))) =>
                                                            (if 0 ≤ j2 ∧ j2 < ((data3.set i2.toNat e59).length : Int) then
                                                              (Option.bind ((data3.set i2.toNat e59)[j2.toNat]?) fun (e62 : Int × (List ((List UInt8) × (List UInt8))) × (List ((List UInt8) × Int))) =>
                                                                (if fits (i2 + 1) then (if fits (j2 - 1) then (iter (fun (go7 : ((List (Int × (List ((List UInt8) × (List UInt8))) × (List ((List UInt8) × Int)))) × Int × (List ((List UInt8) × Bool)) × Int × Int) → Option (Int × Bool × (List (Int × (List ((List UInt8) × (List UInt8))) × (List ((List UInt8) × Int)))))) (g : (List (Int × (List ((List UInt8) × (List UInt8))) × (List ((List UInt8) × Int)))) × Int × (List ((List UInt8) × Bool)) × Int × Int) => 
                                                                        match g with
                                                                        | (data8, a8, cmp8, i7, j7) =>
                                                                        (iter (fun (go8 : ((List (Int × (List ((List UInt8) × (List UInt8))) × (List ((List UInt8) × Int)))) × Int × (List ((List UInt8) × Bool)) × Int × Int) → Option (Int × Bool × (List (Int × (List ((List UInt8) × (List UInt8))) × (List ((List UInt8) × Int)))))) (g : (List (Int × (List ((List UInt8) × (List UInt8))) × (List ((List UInt8) × Int)))) × Int × (List ((List UInt8) × Bool)) × Int × Int) => 
                                                                            match g with
                                                                            | (data9, a9, cmp9, i8, j8) =>
                                                                            (bif (decide (i8 ≤ j8)) then
                                                                              (if 0 ≤ i8 ∧ i8 < (data9.length : Int) then
                                                                                (Option.bind (data9[i8.toNat]?) fun (e63 : Int × (List ((List UInt8) × (List UInt8))) × (List ((List UInt8) × Int))) =>
                                                                                (if 0 ≤ a9 ∧ a9 < (data9.length : Int) then
                                                                                (Option.bind (data9[a9.toNat]?) fun (e64 : Int × (List ((List UInt8) × (List UInt8))) × (List ((List UInt8) × Int))) =>
                                                                                (Option.bind (i_SortOf_1_m N e63.1 e63.2.1 e63.2.2 e64.1 e64.2.1 e64.2.2 cmp9) fun (r6 : Int) =>
                                                                                (bif (decide (r6 < 0)) then
                                                                                (if fits (i8 + 1) then (go8 (data9, a9, cmp9, (i8 + 1), j8)) else none)
                                                                                else
                                                                                (iter (fun (go9 : ((List (Int × (List ((List UInt8) × (List UInt8))) × (List ((List UInt8) × Int)))) × Int × (List ((List UInt8) × Bool)) × Int × Int) → Option (Int × Bool × (List (Int × (List ((List UInt8) × (List UInt8))) × (List ((List UInt8) × Int)))))) (g : (List (Int × (List ((List UInt8) × (List UInt8))) × (List ((List UInt8) × Int)))) × Int × (List ((List UInt8) × Bool)) × Int × Int) => 
                                                                                match g with
                                                                                | (data10, a10, cmp10, i9, j9) =>
                                                                                (bif (decide (i9 ≤ j9)) then
                                                                                (if 0 ≤ j9 ∧ j9 < (data10.length : Int) then
                                                                                (Option.bind (data10[j9.toNat]?) fun (e65 : Int × (List ((List UInt8) × (List UInt8))) × (List ((List UInt8) × Int))) =>
                                                                                (if 0 ≤ a10 ∧ a10 < (data10.length : Int) then
                                                                                (Option.bind (data10[a10.toNat]?) fun (e66 : Int × (List ((List UInt8) × (List UInt8))) × (List ((List UInt8) × Int))) =>
                                                                                (Option.bind (i_SortOf_1_m N e65.1 e65.2.1 e65.2.2 e66.1 e66.2.1 e66.2.2 cmp10) fun (r7 : Int) =>
                                                                                (bif (!(decide (r7 < 0))) then
                                                                                (if fits (j9 - 1) then (go9 (data10, a10, cmp10, i9, (j9 - 1))) else none)
                                                                                else
                                                                                (bif (decide (j9 < i9)) then
                                                                                (if 0 ≤ a10 ∧ a10 < (data10.length : Int) then
                                                                                (Option.bind (data10[a10.toNat]?) fun (e67 : Int × (List ((List UInt8) × (List UInt8))) × (List ((List UInt8) × Int))) =>
                                                                                (if 0 ≤ j9 ∧ j9 < (data10.length : Int) then
                                                                                (Option.bind (data10[j9.toNat]?) fun (e68 : Int × (List ((List UInt8) × (List UInt8))) × (List ((List UInt8) × Int))) =>
                                                                                (if 0 ≤ j9 ∧ j9 < (data10.length : Int) then
                                                                                (Option.bind (data10[j9.toNat]?) fun (e69 : Int × (List ((List UInt8) × (List UInt8))) × (List ((List UInt8) × Int))) =>
                                                                                (if 0 ≤ a10 ∧ a10 < ((data10.set j9.toNat e67).length : Int) then
                                                                                (Option.bind ((data10.set j9.toNat e67)[a10.toNat]?) fun (e70 : Int × (List ((List UInt8) × (List UInt8))) × (List ((List UInt8) × Int))) =>
                                                                                (some (j9, false, ((data10.set j9.toNat e67).set a10.toNat e68))))
                                                                                else none))
                                                                                else none))
                                                                                else none))
                                                                                else none)
                                                                                else
                                                                                (if 0 ≤ j9 ∧ j9 < (data10.length : Int) then
                                                                                (Option.bind (data10[j9.toNat]?) fun (e71 : Int × (List ((List UInt8) × (List UInt8))) × (List ((List UInt8) × Int))) =>
                                                                                (if 0 ≤ i9 ∧ i9 < (data10.length : Int) then
                                                                                (Option.bind (data10[i9.toNat]?) fun (e72 : Int × (List ((List UInt8) × (List UInt8))) × (List ((List UInt8) × Int))) =>
                                                                                (if 0 ≤ i9 ∧ i9 < (data10.length : Int) then
                                                                                (Option.bind (data10[i9.toNat]?) fun (e73 : Int × (List ((List UInt8) × (List UInt8))) × (List ((List UInt8) × Int))) =>
                                                                                (if 0 ≤ j9 ∧ j9 < ((data10.set i9.toNat e71).length : Int) then
                                                                                (Option.bind ((data10.set i9.toNat e71)[j9.toNat]?) fun (e74 : Int × (List ((List UInt8) × (List UInt8))) × (List ((List UInt8) × Int))) =>
                                                                                (if fits (i9 + 1) then (if fits (j9 - 1) then (go7 (((data10.set i9.toNat e71).set j9.toNat e72), a10, cmp10, (i9 + 1), (j9 - 1))) else none) else none))
                                                                                else none))
                                                                                else none))
                                                                                else none))
                                                                                else none)))))
                                                                                else none))
                                                                                else none)
                                                                                else
                                                                                (bif (decide (j9 < i9)) then
                                                                                (if 0 ≤ a10 ∧ a10 < (data10.length : Int) then
                                                                                (Option.bind (data10[a10.toNat]?) fun (e75 : Int × (List ((List UInt8) × (List UInt8))) × (List ((List UInt8) × Int))) =>
                                                                                (if 0 ≤ j9 ∧ j9 < (data10.length : Int) then
                                                                                (Option.bind (data10[j9.toNat]?) fun (e76 : Int × (List ((List UInt8) × (List UInt8))) × (List ((List UInt8) × Int))) =>
                                                                                (if 0 ≤ j9 ∧ j9 < (data10.length : Int) then
                                                                                (Option.bind (data10[j9.toNat]?) fun (e77 : Int × (List ((List UInt8) × (List UInt8))) × (List ((List UInt8) × Int))) =>
                                                                                (if 0 ≤ a10 ∧ a10 < ((data10.set j9.toNat e75).length : Int) then
                                                                                (Option.bind ((data10.set j9.toNat e75)[a10.toNat]?) fun (e78 : Int × (List ((List UInt8) × (List UInt8))) × (List ((List UInt8) × Int))) =>
                                                                                (some (j9, false, ((data10.set j9.toNat e75).set a10.toNat e76))))
                                                                                else none))
                                                                                else none))
                                                                                else none))
                                                                                else none)
                                                                                else
                                                                                (if 0 ≤ j9 ∧ j9 < (data10.length : Int) then
                                                                                (Option.bind (data10[j9.toNat]?) fun (e79 : Int × (List ((List UInt8) × (List UInt8))) × (List ((List UInt8) × Int))) =>
                                                                                (if 0 ≤ i9 ∧ i9 < (data10.length : Int) then
                                                                                (Option.bind (data10[i9.toNat]?) fun (e80 : Int × (List ((List UInt8) × (List UInt8))) × (List ((List UInt8) × Int))) =>
                                                                                (if 0 ≤ i9 ∧ i9 < (data10.length : Int) then
                                                                                (Option.bind (data10[i9.toNat]?) fun (e81 : Int × (List ((List UInt8) × (List UInt8))) × (List ((List UInt8) × Int))) =>
                                                                                (if 0 ≤ j9 ∧ j9 < ((data10.set i9.toNat e79).length : Int) then
                                                                                (Option.bind ((data10.set i9.toNat e79)[j9.toNat]?) fun (e82 : Int × (List ((List UInt8) × (List UInt8))) × (List ((List UInt8) × Int))) =>
                                                                                (if fits (i9 + 1) then (if fits (j9 - 1) then (go7 (((data10.set i9.toNat e79).set j9.toNat e80), a10, cmp10, (i9 + 1), (j9 - 1))) else none) else none))
                                                                                else none))
                                                                                else none))
                                                                                else none))
                                                                                else none)))) N (data9, a9, cmp9, i8, j8)))))
                                                                                else none))
                                                                                else none)
                                                                              else
                                                                              (iter (fun (go10 : ((List (Int × (List ((List UInt8) × (List UInt8))) × (List ((List UInt8) × Int)))) × Int × (List ((List UInt8) × Bool)) × Int × Int) → Option (Int × Bool × (List (Int × (List ((List UInt8) × (List UInt8))) × (List ((List UInt8) × Int)))))) (g : (List (Int × (List ((List UInt8) × (List UInt8))) × (List ((List UInt8) × Int)))) × Int × (List ((List UInt8) × Bool)) × Int × Int) => 
                                                                                match g with
                                                                                | (data11, a11, cmp11, i10, j10) =>
                                                                                (bif (decide (i10 ≤ j10)) then
                                                                                (if 0 ≤ j10 ∧ j10 < (data11.length : Int) then
                                                                                (Option.bind (data11[j10.toNat]?) fun (e83 : Int × (List ((List UInt8) × (List UInt8))) × (List ((List UInt8) × Int))) =>
                                                                                (if 0 ≤ a11 ∧ a11 < (data11.length : Int) then
                                                                                (Option.bind (data11[a11.toNat]?) fun (e84 : Int × (List ((List UInt8) × (List UInt8))) × (List ((List UInt8) × Int))) =>
                                                                                (Option.bind (i_SortOf_1_m N e83.1 e83.2.1 e83.2.2 e84.1 e84.2.1 e84.2.2 cmp11) fun (r8 : Int) =>
                                                                                (bif (!(decide (r8 < 0))) then
                                                                                (if fits (j10 - 1) then (go10 (data11, a11, cmp11, i10, (j10 - 1))) else none)
                                                                                else
                                                                                (bif (decide (j10 < i10)) then
                                                                                (if 0 ≤ a11 ∧ a11 < (data11.length : Int) then
                                                                                (Option.bind (data11[a11.toNat]?) fun (e85 : Int × (List ((List UInt8) × (List UInt8))) × (List ((List UInt8) × Int))) =>
                                                                                (if 0 ≤ j10 ∧ j10 < (data11.length : Int) then
                                                                                (Option.bind (data11[j10.toNat]?) fun (e86 : Int × (List ((List UInt8) × (List UInt8))) × (List ((List UInt8) × Int))) =>
                                                                                (if 0 ≤ j10 ∧ j10 < (data11.length : Int) then
                                                                                (Option.bind (data11[j10.toNat]?) fun (e87 : Int × (List ((List UInt8) × (List UInt8))) × (List ((List UInt8) × Int))) =>
                                                                                (if 0 ≤ a11 ∧ a11 < ((data11.set j10.toNat e85).length : Int) then
                                                                                (Option.bind ((data11.set j10.toNat e85)[a11.toNat]?) fun (e88 : Int × (List ((List UInt8) × (List UInt8))) × (List ((List UInt8) × Int))) =>
                                                                                (some (j10, false, ((data11.set j10.toNat e85).set a11.toNat e86))))
                                                                                else none))
                                                                                else none))
                                                                                else none))
                                                                                else none)
                                                                                else
                                                                                (if 0 ≤ j10 ∧ j10 < (data11.length : Int) then
                                                                                (Option.bind (data11[j10.toNat]?) fun (e89 : Int × (List ((List UInt8) × (List UInt8))) × (List ((List UInt8) × Int))) =>
                                                                                (if 0 ≤ i10 ∧ i10 < (data11.length : Int) then
                                                                                (Option.bind (data11[i10.toNat]?) fun (e90 : Int × (List ((List UInt8) × (List UInt8))) × (List ((List UInt8) × Int))) =>
                                                                                (if 0 ≤ i10 ∧ i10 < (data11.length : Int) then
                                                                                (Option.bind (data11[i10.toNat]?) fun (e91 : Int × (List ((List UInt8) × (List UInt8))) × (List ((List UInt8) × Int))) =>
                                                                                (if 0 ≤ j10 ∧ j10 < ((data11.set i10.toNat e89).length : Int) then
                                                                                (Option.bind ((data11.set i10.toNat e89)[j10.toNat]?) fun (e92 : Int × (List ((List UInt8) × (List UInt8))) × (List ((List UInt8) × Int))) =>
                                                                                (if fits (i10 + 1) then (if fits (j10 - 1) then (go7 (((data11.set i10.toNat e89).set j10.toNat e90), a11, cmp11, (i10 + 1), (j10 - 1))) else none) else none))
                                                                                else none))
                                                                                else none))
                                                                                else none))
                                                                                else none)))))
                                                                                else none))
                                                                                else none)
                                                                                else
                                                                                (bif (decide (j10 < i10)) then
                                                                                (if 0 ≤ a11 ∧ a11 < (data11.length : Int) then
                                                                                (Option.bind (data11[a11.toNat]?) fun (e93 : Int × (List ((List UInt8) × (List UInt8))) × (List ((List UInt8) × Int))) =>
                                                                                (if 0 ≤ j10 ∧ j10 < (data11.length : Int) then
                                                                                (Option.bind (data11[j10.toNat]?) fun (e94 : Int × (List ((List UInt8) × (List UInt8))) × (List ((List UInt8) × Int))) =>
                                                                                (if 0 ≤ j10 ∧ j10 < (data11.length : Int) then
                                                                                (Option.bind (data11[j10.toNat]?) fun (e95 : Int × (List ((List UInt8) × (List UInt8))) × (List ((List UInt8) × Int))) =>
                                                                                (if 0 ≤ a11 ∧ a11 < ((data11.set j10.toNat e93).length : Int) then
                                                                                (Option.bind ((data11.set j10.toNat e93)[a11.toNat]?) fun (e96 : Int × (List ((List UInt8) × (List UInt8))) × (List ((List UInt8) × Int))) =>
                                                                                (some (j10, false, ((data11.set j10.toNat e93).set a11.toNat e94))))
                                                                                else none))
                                                                                else none))
                                                                                else none))
                                                                                else none)
                                                                                else
                                                                                (if 0 ≤ j10 ∧ j10 < (data11.length : Int) then
                                                                                (Option.bind (data11[j10.toNat]?) fun (e97 : Int × (List ((List UInt8) × (List UInt8))) × (List ((List UInt8) × Int))) =>
                                                                                (if 0 ≤ i10 ∧ i10 < (data11.length : Int) then
                                                                                (Option.bind (data11[i10.toNat]?) fun (e98 : Int × (List ((List UInt8) × (List UInt8))) × (List ((List UInt8) × Int))) =>
                                                                                (if 0 ≤ i10 ∧ i10 < (data11.length : Int) then
                                                                                (Option.bind (data11[i10.toNat]?) fun (e99 : Int × (List ((List UInt8) × (List UInt8))) × (List ((List UInt8) × Int))) =>
                                                                                (if 0 ≤ j10 ∧ j10 < ((data11.set i10.toNat e97).length : Int) then
                                                                                (Option.bind ((data11.set i10.toNat e97)[j10.toNat]?) fun (e100 : Int × (List ((List UInt8) × (List UInt8))) × (List ((List UInt8) × Int))) =>
                                                                                (if fits (i10 + 1) then (if fits (j10 - 1) then (go7 (((data11.set i10.toNat e97).set j10.toNat e98), a11, cmp11, (i10 + 1), (j10 - 1))) else none) else none))
                                                                                else none))
                                                                                else none))
                                                                                else none))
                                                                                else none)))) N (data9, a9, cmp9, i8, j8)))) N (data8, a8, cmp8, i7, j7))) N (((data3.set i2.toNat e59).set j2.toNat e60), a3, cmp3, (i2 + 1), (j2 - 1))) else none) else none))
                                                              else none))
                                                          else none))
                                                      else none))
                                                  else none)))) N (data2, a2, cmp2, i, j)))))
                                  else none))
                              else none)
                            else
                            (iter (fun (go11 : ((List (Int × (List ((List UInt8) × (List UInt8))) × (List ((List UInt8) × Int)))) × Int × (List ((List UInt8) × Bool)) × Int × Int) → Option (Int × Bool × (List (Int × (List ((List UInt8) × (List UInt8))) × (List ((List UInt8) × Int)))))) (g : (List (Int × (List ((List UInt8) × (List UInt8))) × (List ((List UInt8) × Int)))) × Int × (List ((List UInt8) × Bool)) × Int × Int) => 
                                match g with
                                | (data12, a12, cmp12, i11, j11) =>
                                (bif (decide (i11 ≤ j11)) then
                                  (if 0 ≤ j11 ∧ j11 < (data12.length : Int) then
                                    (Option.bind (data12[j11.toNat]?) fun (e101 : Int × (List ((List UInt8) × (List UInt8))) × (List ((List UInt8) × Int))) =>
                                      (if 0 ≤ a12 ∧ a12 < (data12.length : Int) then
                                        (Option.bind (data12[a12.toNat]?) fun (e102 : Int × (List ((List UInt8) × (List UInt8))) × (List ((List UInt8) × Int))) =>
                                          (Option.bind (i_SortOf_1_m N e101.1 e101.2.1 e101.2.2 e102.1 e102.2.1 e102.2.2 cmp12) fun (r9 : Int) =>
                                            (bif (!(decide (r9 < 0))) then
                                              (if fits (j11 - 1) then (go11 (data12, a12, cmp12, i11, (j11 - 1))) else none)
                                              else
                                              (bif (decide (j11 < i11)) then
                                                (if 0 ≤ a12 ∧ a12 < (data12.length : Int) then
                                                  (Option.bind (data12[a12.toNat]?) fun (e103 : Int × (List ((List UInt8) × (List UInt8))) × (List ((List UInt8) × Int))) =>
                                                    (if 0 ≤ j11 ∧ j11 < (data12.length : Int) then
                                                      (Option.bind (data12[j11.toNat]?) fun (e104 : Int × (List ((List UInt8) × (List UInt8))) × (List ((List UInt8) × Int))) =>
                                                        (if 0 ≤ j11 ∧ j11 < (data12.length : Int) then
                                                          (Option.bind (data12[j11.toNat]?) fun (e105 : Int × (List ((List UInt8) × (List UInt8))) × (List ((List UInt8) × Int))) =>
                                                            (if 0 ≤ a12 ∧ a12 < ((data12.set j11.toNat e103).length : Int) then
                                                              (Option.bind ((data12.set j11.toNat e103)[a12.toNat]?) fun (e106 : Int × (List ((List UInt8) × (List UInt8))) × (List ((List UInt8) × Int))) =>
                                                                (some (j11, true, ((data12.set j11.toNat e103).set a12.toNat e104))))
                                                              else none))
                                                          else none))
                                                      else none))
                                                  else none)
                                                else
                                                (if 0 ≤ j11 ∧ j11 < (data12.length : Int) then
                                                  (Option.bind (data12[j11.toNat]?) fun (e107 : Int × (List ((List UInt8) × (List UInt8))) × (List ((List UInt8) × Int))) =>
                                                    (if 0 ≤ i11 ∧ i11 < (data12.length : Int) then
                                                      (Option.bind (data12[i11.toNat]?) fun (e108 : Int × (List ((List UInt8) × (List UInt8))) × (List ((List UInt8) × Int))) =>
                                                        (if 0 ≤ i11 ∧ i11 < (data12.length : Int) then
                                                          (Option.bind (data12[i11.toNat]?) fun (e109 : Int × (List ((List UInt8) × (List UInt8))) × (List ((List UInt8) × Int))) =>
                                                            (if 0 ≤ j11 ∧ j11 < ((data12.set i11.toNat e107).length : Int) then
                                                              (Option.bind ((data12.set i11.toNat e107)[j11.toNat]?) fun (e110 : Int × (List ((List UInt8) × (List UInt8))) × (List ((List UInt8) × Int))) =>
                                                                (if fits (i11 + 1) then (if fits (j11 - 1) then (iter (fun (go12 : ((List (Int × (List ((List UInt8) × (List UInt8))) × (List ((List UInt8) × Int)))) × Int × (List ((List UInt8) × Bool)) × Int × Int) → Option (Int × Bool × (List (Int × (List ((List UInt8) × (List UInt8))) × (List ((List UInt8) × Int)))))) (g : (List (Int × (List ((List UInt8) × (List UInt8))) × (List ((List UInt8) × Int)))) × Int × (List ((List UInt8) × Bool)) × Int × Int) => 
                                                                        match g with
                                                                        | (data13, a13, cmp13, i12, j12) =>
                                                                        (iter (fun (go13 : ((List (Int × (List ((List UInt8) × (List UInt8))) × (List ((List UInt8) × Int)))) × Int × (List ((List UInt8) × Bool)) × Int × Int) → Option (Int × Bool × (List (Int × (List ((List UInt8) × (List UInt8))) × (List ((List UInt8) × Int)))))) (g : (List (Int × (List ((List UInt8) × (List UInt8))) × (List ((List UInt8) × Int)))) × Int × (List ((List UInt8) × Bool)) × Int × Int) => 
                                                                            match g with
                                                                            | (data14, a14, cmp14, i13, j13) =>
                                                                            (bif (decide (i13 ≤ j13)) then
                                                                              (if 0 ≤ i13 ∧ i13 < (data14.length : Int) then
                                                                                (Option.bind (data14[i13.toNat]?) fun (e111 : Int × (List ((List UInt8) × (List UInt8))) × (List ((List UInt8) × Int))) =>
                                                                                (if 0 ≤ a14 ∧ a14 < (data14.length : Int) then
                                                                                (Option.bind (data14[a14.toNat]?) fun (e112 : Int × (List ((List UInt8) × (List UInt8))) × (List ((List UInt8) × Int))) =>
                                                                                (Option.bind (i_SortOf_1_m N e111.1 e111.2.1 e111.2.2 e112.1 e112.2.1 e112.2.2 cmp14) fun (r10 : Int) =>
                                                                                (bif (decide (r10 < 0)) then
                                                                                (if fits (i13 + 1) then (go13 (data14, a14, cmp14, (i13 + 1), j13)) else none)
                                                                                else
                                                                                (iter (fun (go14 : ((List (Int × (List ((List UInt8) × (List UInt8))) × (List ((List UInt8) × Int)))) × Int × (List ((List UInt8) × Bool)) × Int × Int) → Option (Int × Bool × (List (Int × (List ((List UInt8) × (List UInt8))) × (List ((List UInt8) × Int)))))) (g : (List (Int × (List ((List UInt8) × (List UInt8))) × (List ((List UInt8) × Int)))) × Int × (List ((List UInt8) × Bool)) × Int × Int) => 
                                                                                match g with
                                                                                | (data15, a15, cmp15, i14, j14) =>
                                                                                (bif (decide (i14 ≤ j14)) then
                                                                                (if 0 ≤ j14 ∧ j14 < (data15.length : Int) then
                                                                                (Option.bind (data15[j14.toNat]?) fun (e113 : Int × (List ((List UInt8) × (List UInt8))) × (List ((List UInt8) × Int))) =>
                                                                                (if 0 ≤ a15 ∧ a15 < (data15.length : Int) then
                                                                                (Option.bind (data15[a15.toNat]?) fun (e114 : Int × (List ((List UInt8) × (List UInt8))) × (List ((List UInt8) × Int))) =>
                                                                                (Option.bind (i_SortOf_1_m N e113.1 e113.2.1 e113.2.2 e114.1 e114.2.1 e114.2.2 cmp15) fun (r11 : Int) =>
                                                                                (bif (!(decide (r11 < 0))) then
                                                                                (if fits (j14 - 1) then (go14 (data15, a15, cmp15, i14, (j14 - 1))) else none)
                                                                                else
                                                                                (bif (decide (j14 < i14)) then
                                                                                (if 0 ≤ a15 ∧ a15 < (data15.length : Int) then
                                                                                (Option.bind (data15[a15.toNat]?) fun (e115 : Int × (List ((List UInt8) × (List UInt8))) × (List ((List UInt8) × Int))) =>
                                                                                (if 0 ≤ j14 ∧ j14 < (data15.length : Int) then
                                                                                (Option.bind (data15[j14.toNat]?) fun (e116 : Int × (List ((List UInt8) × (List UInt8))) × (List ((List UInt8) × Int))) =>
                                                                                (if 0 ≤ j14 ∧ j14 < (data15.length : Int) then
                                                                                (Option.bind (data15[j14.toNat]?) fun (e117 : Int × (List ((List UInt8) × (List UInt8))) × (List ((List UInt8) × Int))) =>
                                                                                (if 0 ≤ a15 ∧ a15 < ((data15.set j14.toNat e115).length : Int) then
                                                                                (Option.bind ((data15.set j14.toNat e115)[a15.toNat]?) fun (e118 : Int × (List ((List UInt8) × (List UInt8))) × (List ((List UInt8) × Int))) =>
                                                                                (some (j14, false, ((data15.set j14.toNat e115).set a15.toNat e116))))
                                                                                else none))
                                                                                else none))
                                                                                else none))
                                                                                else none)
                                                                                else
                                                                                (if 0 ≤ j14 ∧ j14 < (data15.length : Int) then
                                                                                (Option.bind (data15[j14.toNat]?) fun (e119 : Int × (List ((List UInt8) × (List UInt8))) × (List ((List UInt8) × Int))) =>
                                                                                (if 0 ≤ i14 ∧ i14 < (data15.length : Int) then
                                                                                (Option.bind (data15[i14.toNat]?) fun (e120 : Int × (List ((List UInt8) × (List UInt8))) × (List ((List UInt8) × Int))) =>
                                                                                (if 0 ≤ i14 ∧ i14 < (data15.length : Int) then
                                                                                (Option.bind (data15[i14.toNat]?) fun (e121 : Int × (List ((List UInt8) × (List UInt8))) × (List ((List UInt8) × Int))) =>
                                                                                (if 0 ≤ j14 ∧ j14 < ((data15.set i14.toNat e119).length : Int) then
                                                                                (Option.bind ((data15.set i14.toNat e119)[j14.toNat]?) fun (e122 : Int × (List ((List UInt8) × (List UInt8))) × (List ((List UInt8) × Int))) =>
                                                                                (if fits (i14 + 1) then (if fits (j14 - 1) then (go12 (((data15.set i14.toNat e119).set j14.toNat e120), a15, cmp15, (i14 + 1), (j14 - 1))) else none) else none))
                                                                                else none))
                                                                                else none))
                                                                                else none))
                                                                                else none)))))
                                                                                else none))
                                                                                else none)
                                                                                else
                                                                                (bif (decide (j14 < i14)) then
                                                                                (if 0 ≤ a15 ∧ a15 < (data15.length : Int) then
                                                                                (Option.bind (data15[a15.toNat]?) fun (e123 : Int × (List ((List UInt8) × (List UInt8))) × (List ((List UInt8) × Int))) =>
                                                                                (if 0 ≤ j14 ∧ j14 < (data15.length : Int) then
                                                                                (Option.bind (data15[j14.toNat]?) fun (e124 : Int × (List ((List UInt8) × (List UInt8))) × (List ((List UInt8) × Int))) =>
                                                                                (if 0 ≤ j14 ∧ j14 < (data15.length : Int) then
                                                                                (Option.bind (data15[j14.toNat]?) fun (e125 : Int × (List ((List UInt8) × (List UInt8))) × (List ((List UInt8) × Int))) =>
                                                                                (if 0 ≤ a15 ∧ a15 < ((data15.set j14.toNat e123).length : Int) then
                                                                                (Option.bind ((data15.set j14.toNat e123)[a15.toNat]?) fun (e126 : Int × (List ((List UInt8) × (List UInt8))) × (List ((List UInt8) × Int))) =>
                                                                                (some (j14, false, ((data15.set j14.toNat e123).set a15.toNat e124))))
                                                                                else none))
                                                                                else none))
                                                                                else none))
                                                                                else none)
                                                                                else
                                                                                (if 0 ≤ j14 ∧ j14 < (data15.length : Int) then
                                                                                (Option.bind (data15[j14.toNat]?) fun (e127 : Int × (List ((List UInt8) × (List UInt8))) × (List ((List UInt8) × Int))) =>
                                                                                (if 0 ≤ i14 ∧ i14 < (data15.length : Int) then
                                                                                (Option.bind (data15[i14.toNat]?) fun (e128 : Int × (List ((List UInt8) × (List UInt8))) × (List ((List UInt8) × Int))) =>
                                                                                (if 0 ≤ i14 ∧ i14 < (data15.length : Int) then
                                                                                (Option.bind (data15[i14.toNat]?) fun (e129 : Int × (List ((List UInt8) × (List UInt8))) × (List ((List UInt8) × Int))) =>
                                                                                (if 0 ≤ j14 ∧ j14 < ((data15.set i14.toNat e127).length : Int) then
                                                                                (Option.bind ((data15.set i14.toNat e127)[j14.toNat]?) fun (e130 : Int × (List ((List UInt8) × (List UInt8))) × (List ((List UInt8) × Int))) =>
                                                                                (if fits (i14 + 1) then (if fits (j14 - 1) then (go12 (((data15.set i14.toNat e127).set j14.toNat e128), a15, cmp15, (i14 + 1), (j14 - 1))) else none) else none))
                                                                                else none))
                                                                                else none))
                                                                                else none))
                                                                                else none)))) N (data14, a14, cmp14, i13, j13)))))
                                                                                else none))
                                                                                else none)
                                                                              else
                                                                              (iter (fun (go15 : ((List (Int × (List ((List UInt8) × (List UInt8))) × (List ((List UInt8) × Int)))) × Int × (List ((List UInt8) × Bool)) × Int × Int) → Option (Int × Bool × (List (Int × (List ((List UInt8) × (List UInt8))) × (List ((List UInt8) × Int)))))) (g : (List (Int × (List ((List UInt8) × (List UInt8))) × (List ((List UInt8) × Int)))) × Int × (List ((List UInt8) × Bool)) × Int × Int) => 
                                                                                match g with
                                                                                | (data16, a16, cmp16, i15, j15) =>
                                                                                (bif (decide (i15 ≤ j15)) then
                                                                                (if 0 ≤ j15 ∧ j15 < (data16.length : Int) then
                                                                                (Option.bind (data16[j15.toNat]?) fun (e131 : Int × (List ((List UInt8) × (List UInt8))) × (List ((List UInt8) × Int))) =>
                                                                                (if 0 ≤ a16 ∧ a16 < (data16.length : Int) then
                                                                                (Option.bind (data16[a16.toNat]?) fun (e132 : Int × (List ((List UInt8) × (List UInt8))) × (List ((List UInt8) × Int))) =>
                                                                                (Option.bind (i_SortOf_1_m N e131.1 e131.2.1 e131.2.2 e132.1 e132.2.1 e132.2.2 cmp16) fun (r12 : Int) =>
                                                                                (bif (!(decide (r12 < 0))) then
                                                                                (if fits (j15 - 1) then (go15 (data16, a16, cmp16, i15, (j15 - 1))) else none)
                                                                                else
                                                                                (bif (decide (j15 < i15)) then
                                                                                (if 0 ≤ a16 ∧ a16 < (data16.length : Int) then
                                                                                (Option.bind (data16[a16.toNat]?) fun (e133 : Int × (List ((List UInt8) × (List UInt8))) × (List ((List UInt8) × Int))) =>
                                                                                (if 0 ≤ j15 ∧ j15 < (data16.length : Int) then
                                                                                (Option.bind (data16[j15.toNat]?) fun (e134 : Int × (List ((List UInt8) × (List UInt8))) × (List ((List UInt8) × Int))) =>
                                                                                (if 0 ≤ j15 ∧ j15 < (data16.length : Int) then
                                                                                (Option.bind (data16[j15.toNat]?) fun (e135 : Int × (List ((List UInt8) × (List UInt8))) × (List ((List UInt8) × Int))) =>
                                                                                (if 0 ≤ a16 ∧ a16 < ((data16.set j15.toNat e133).length : Int) then
                                                                                (Option.bind ((data16.set j15.toNat e133)[a16.toNat]?) fun (e136 : Int × (List ((List UInt8) × (List UInt8))) × (List ((List UInt8) × Int))) =>
                                                                                (some (j15, false, ((data16.set j15.toNat e133).set a16.toNat e134))))
                                                                                else none))
                                                                                else none))
                                                                                else none))
                                                                                else none)
                                                                                else
                                                                                (if 0 ≤ j15 ∧ j15 < (data16.length : Int) then
                                                                                (Option.bind (data16[j15.toNat]?) fun (e137 : Int × (List ((List UInt8) × (List UInt8))) × (List ((List UInt8) × Int))) =>
                                                                                (if 0 ≤ i15 ∧ i15 < (data16.length : Int) then
                                                                                (Option.bind (data16[i15.toNat]?) fun (e138 : Int × (List ((List UInt8) × (List UInt8))) × (List ((List UInt8) × Int))) =>
                                                                                (if 0 ≤ i15 ∧ i15 < (data16.length : Int) then
                                                                                (Option.bind (data16[i15.toNat]?) fun (e139 : Int × (List ((List UInt8) × (List UInt8))) × (List ((List UInt8) × Int))) =>
                                                                                (if 0 ≤ j15 ∧ j15 < ((data16.set i15.toNat e137).length : Int) then
                                                                                (Option.bind ((data16.set i15.toNat e137)[j15.toNat]?) fun (e140 : Int × (List ((List UInt8) × (List UInt8))) × (List ((List UInt8) × Int))) =>
                                                                                (if fits (i15 + 1) then (if fits (j15 - 1) then (go12 (((data16.set i15.toNat e137).set j15.toNat e138), a16, cmp16, (i15 + 1), (j15 - 1))) else none) else none))
                                                                                else none))
                                                                                else none))
                                                                                else none))
                                                                                else none)))))
                                                                                else none))
                                                                                else none)
                                                                                else
                                                                                (bif (decide (j15 < i15)) then
                                                                                (if 0 ≤ a16 ∧ a16 < (data16.length : Int) then
                                                                                (Option.bind (data16[a16.toNat]?) fun (e141 : Int × (List ((List UInt8) × (List UInt8))) × (List ((List UInt8) × Int))) =>
                                                                                (if 0 ≤ j15 ∧ j15 < (data16.length : Int) then
                                                                                (Option.bind (data16[j15.toNat]?) fun (e142 : Int × (List ((List UInt8) × (List UInt8))) × (List ((List UInt8) × Int))) =>
                                                                                (if 0 ≤ j15 ∧ j15 < (data16.length : Int) then
                                                                                (Option.bind (data16[j15.toNat]?) fun (e143 : Int × (List ((List UInt8) × (List UInt8))) × (List ((List UInt8) × Int))) =>
                                                                                (if 0 ≤ a16 ∧ a16 < ((data16.set j15.toNat e141).length : Int) then
                                                                                (Option.bind ((data16.set j15.toNat e141)[a16.toNat]?) fun (e144 : Int × (List ((List UInt8) × (List UInt8))) × (List ((List UInt8) × Int))) =>
                                                                                (some (j15, false, ((data16.set j15.toNat e141).set a16.toNat e142))))
                                                                                else none))
                                                                                else none))
                                                                                else none))
                                                                                else none)
                                                                                else
                                                                                (if 0 ≤ j15 ∧ j15 < (data16.length : Int) then
                                                                                (Option.bind (data16[j15.toNat]?) fun (e145 : Int × (List ((List UInt8) × (List UInt8))) × (List ((List UInt8) × Int))) =>
                                                                                (if 0 ≤ i15 ∧ i15 < (data16.length : Int) then
                                                                                (Option.bind (data16[i15.toNat]?) fun (e146 : Int × (List ((List UInt8) × (List UInt8))) × (List ((List UInt8) × Int))) =>
                                                                                (if 0 ≤ i15 ∧ i15 < (data16.length : Int) then
                                                                                (Option.bind (data16[i15.toNat]?) fun (e147 : Int × (List ((List UInt8) × (List UInt8))) × (List ((List UInt8) × Int))) =>
                                                                                (if 0 ≤ j15 ∧ j15 < ((data16.set i15.toNat e145).length : Int) then
                                                                                (Option.bind ((data16.set i15.toNat e145)[j15.toNat]?) fun (e148 : Int × (List ((List UInt8) × (List UInt8))) × (List ((List UInt8) × Int))) =>
                                                                                (if fits (i15 + 1) then (if fits (j15 - 1) then (go12 (((data16.set i15.toNat e145).set j15.toNat e146), a16, cmp16, (i15 + 1), (j15 - 1))) else none) else none))
                                                                                else none))
                                                                                else none))
                                                                                else none))
                                                                                else none)))) N (data14, a14, cmp14, i13, j13)))) N (data13, a13, cmp13, i12, j12))) N (((data12.set i11.toNat e107).set j11.toNat e108), a12, cmp12, (i11 + 1), (j11 - 1))) else none) else none))
                                                              else none))
                                                          else none))
                                                      else none))
                                                  else none)))))
                                        else none))
                                    else none)
                                  else
                                  (bif (decide (j11 < i11)) then
                                    (if 0 ≤ a12 ∧ a12 < (data12.length : Int) then
                                      (Option.bind (data12[a12.toNat]?) fun (e149 : Int × (List ((List UInt8) × (List UInt8))) × (List ((List UInt8) × Int))) =>
                                        (if 0 ≤ j11 ∧ j11 < (data12.length : Int) then
                                          (Option.bind (data12[j11.toNat]?) fun (e150 : Int × (List ((List UInt8) × (List UInt8))) × (List ((List UInt8) × Int))) =>
                                            (if 0 ≤ j11 ∧ j11 < (data12.length : Int) then
                                              (Option.bind (data12[j11.toNat]?) fun (e151 : Int × (List ((List UInt8) × (List UInt8))) × (List ((List UInt8) × Int))) =>
                                                (if 0 ≤ a12 ∧ a12 < ((data12.set j11.toNat e149).length : Int) then
                                                  (Option.bind ((data12.set j11.toNat e149)[a12.toNat]?) fun (e152 : Int × (List ((List UInt8) × (List UInt8))) × (List ((List UInt8) × Int))) =>
                                                    (some (j11, true, ((data12.set j11.toNat e149).set a12.toNat e150))))
                                                  else none))
                                              else none))
                                          else none))
                                      else none)
                                    else
                                    (if 0 ≤ j11 ∧ j11 < (data12.length : Int) then
                                      (Option.bind (data12[j11.toNat]?) fun (e153 : Int × (List ((List UInt8) × (List UInt8))) × (List ((List UInt8) × Int))) =>
                                        (if 0 ≤ i11 ∧ i11 < (data12.length : Int) then
                                          (Option.bind (data12[i11.toNat]?) fun (e154 : Int × (List ((List UInt8) × (List UInt8))) × (List ((List UInt8) × Int))) =>
                                            (if 0 ≤ i11 ∧ i11 < (data12.length : Int) then
                                              (Option.bind (data12[i11.toNat]?) fun (e155 : Int × (List ((List UInt8) × (List UInt8))) × (List ((List UInt8) × Int))) =>
                                                (if 0 ≤ j11 ∧ j11 < ((data12.set i11.toNat e153).length : Int) then
                                                  (Option.bind ((data12.set i11.toNat e153)[j11.toNat]?) fun (e156 : Int × (List ((List UInt8) × (List UInt8))) × (List ((List UInt8) × Int))) =>
                                                    (if fits (i11 + 1) then (if fits (j11 - 1) then (iter (fun (go16 : ((List (Int × (List ((List UInt8) × (List UInt8))) × (List ((List UInt8) × Int)))) × Int × (List ((List UInt8) × Bool)) × Int × Int) → Option (Int × Bool × (List (Int × (List ((List UInt8) × (List UInt8))) × (List ((List UInt8) × Int)))))) (g : (List (Int × (List ((List UInt8) × (List UInt8))) × (List ((List UInt8) × Int)))) × Int × (List ((List UInt8) × Bool)) × Int × Int) => 
                                                            match g with
                                                            | (data17, a17, cmp17, i16, j16) =>
                                                            (iter (fun (go17 : ((List (Int × (List ((List UInt8) × (List UInt8))) × (List ((List UInt8) × Int)))) × Int × (List ((List UInt8) × Bool)) × Int × Int) → Option (Int × Bool × (List (Int × (List ((List UInt8) × (List UInt8))) × (List ((List UInt8) × Int)))))) (g : (List (Int × (List ((List UInt8) × (List UInt8))) × (List ((List UInt8) × Int)))) × Int × (List ((List UInt8) × Bool)) × Int × Int) => 
                                                                match g with
                                                                | (data18, a18, cmp18, i17, j17) =>
                                                                (bif (decide (i17 ≤ j17)) then
                                                                  (if 0 ≤ i17 ∧ i17 < (data18.length : Int) then
                                                                    (Option.bind (data18[i17.toNat]?) fun (e157 : Int × (List ((List UInt8) × (List UInt8))) × (List ((List UInt8) × Int))) =>
                                                                      (if 0 ≤ a18 ∧ a18 < (data18.length : Int) then
                                                                        (Option.bind (data18[a18.toNat]?) fun (e158 : Int × (List ((List UInt8) × (List UInt8))) × (List ((List UInt8) × Int))) =>
                                                                          (Option.bind (i_SortOf_1_m N e157.1 e157.2.1 e157.2.2 e158.1 e158.2.1 e158.2.2 cmp18) fun (r13 : Int) =>
                                                                            (bif (decide (r13 < 0)) then
                                                                              (if fits (i17 + 1) then (go17 (data18, a18, cmp18, (i17 + 1), j17)) else none)
                                                                              else
                                                                              (iter (fun (go18 : ((List (Int × (List ((List UInt8) × (List UInt8))) × (List ((List UInt8) × Int)))) × Int × (List ((List UInt8) × Bool)) × Int × Int) → Option (Int × Bool × (List (Int × (List ((List UInt8) × (List UInt8))) × (List ((List UInt8) × Int)))))) (g : (List (Int × (List ((List UInt8) × (List UInt8))) × (List ((List UInt8) × Int)))) × Int × (List ((List UInt8) × Bool)) × Int × Int) => 
                                                                                match g with
                                                                                | (data19, a19, cmp19, i18, j18) =>
                                                                                (bif (decide (i18 ≤ j18)) then
                                                                                (if 0 ≤ j18 ∧ j18 < (data19.length : Int) then
                                                                                (Option.bind (data19[j18.toNat]?) fun (e159 : Int × (List ((List UInt8) × (List UInt8))) × (List ((List UInt8) × Int))) =>
                                                                                (if 0 ≤ a19 ∧ a19 < (data19.length : Int) then
                                                                                (Option.bind (data19[a19.toNat]?) fun (e160 : Int × (List ((List UInt8) × (List UInt8))) × (List ((List UInt8) × Int))) =>
                                                                                (Option.bind (i_SortOf_1_m N e159.1 e159.2.1 e159.2.2 e160.1 e160.2.1 e160.2.2 cmp19) fun (r14 : Int) =>
                                                                                (bif (!(decide (r14 < 0))) then
                                                                                (if fits (j18 - 1) then (go18 (data19, a19, cmp19, i18, (j18 - 1))) else none)
                                                                                else
                                                                                (bif (decide (j18 < i18)) then
                                                                                (if 0 ≤ a19 ∧ a19 < (data19.length : Int) then
                                                                                (Option.bind (data19[a19.toNat]?) fun (e161 : Int × (List ((List UInt8) × (List UInt8))) × (List ((List UInt8) × Int))) =>
                                                                                (if 0 ≤ j18 ∧ j18 < (data19.length : Int) then
                                                                                (Option.bind (data19[j18.toNat]?) fun (e162 : Int × (List ((List UInt8) × (List UInt8))) × (List ((List UInt8) × Int))) =>
                                                                                (if 0 ≤ j18 ∧ j18 < (data19.length : Int) then
                                                                                (Option.bind (data19[j18.toNat]?) fun (e163 : Int × (List ((List UInt8) × (List UInt8))) × (List ((List UInt8) × Int))) =>
                                                                                (if 0 ≤ a19 ∧ a19 < ((data19.set j18.toNat e161).length : Int) then
                                                                                (Option.bind ((data19.set j18.toNat e161)[a19.toNat]?) fun (e164 : Int × (List ((List UInt8) × (List UInt8))) × (List ((List UInt8) × Int))) =>
                                                                                (some (j18, false, ((data19.set j18.toNat e161).set a19.toNat e162))))
                                                                                else none))
                                                                                else none))
                                                                                else none))
                                                                                else none)
                                                                                else
                                                                                (if 0 ≤ j18 ∧ j18 < (data19.length : Int) then
                                                                                (Option.bind (data19[j18.toNat]?) fun (e165 : Int × (List ((List UInt8) × (List UInt8))) × (List ((List UInt8) × Int))) =>
                                                                                (if 0 ≤ i18 ∧ i18 < (data19.length : Int) then
                                                                                (Option.bind (data19[i18.toNat]?) fun (e166 : Int × (List ((List UInt8) × (List UInt8))) × (List ((List UInt8) × Int))) =>
                                                                                (if 0 ≤ i18 ∧ i18 < (data19.length : Int) then
                                                                                (Option.bind (data19[i18.toNat]?) fun (e167 : Int × (List ((List UInt8) × (List UInt8))) × (List ((List UInt8) × Int))) =>
                                                                                (if 0 ≤ j18 ∧ j18 < ((data19.set i18.toNat e165).length : Int) then
                                                                                (Option.bind ((data19.set i18.toNat e165)[j18.toNat]?) fun (e168 : Int × (List ((List UInt8) × (List UInt8))) × (List ((List UInt8) × Int))) =>
                                                                                (if fits (i18 + 1) then (if fits (j18 - 1) then (go16 (((data19.set i18.toNat e165).set j18.toNat e166), a19, cmp19, (i18 + 1), (j18 - 1))) else none) else none))
                                                                                else none))
                                                                                else none))
                                                                                else none))
                                                                                else none)))))
                                                                                else none))
                                                                                else none)
                                                                                else
                                                                                (bif (decide (j18 < i18)) then
                                                                                (if 0 ≤ a19 ∧ a19 < (data19.length : Int) then
                                                                                (Option.bind (data19[a19.toNat]?) fun (e169 : Int × (List ((List UInt8) × (List UInt8))) × (List ((List UInt8) × Int))) =>
                                                                                (if 0 ≤ j18 ∧ j18 < (data19.length : Int) then
                                                                                (Option.bind (data19[j18.toNat]?) fun (e170 : Int × (List ((List UInt8) × (List UInt8))) × (List ((List UInt8) × Int))) =>
                                                                                (if 0 ≤ j18 ∧ j18 < (data19.length : Int) then
                                                                                (Option.bind (data19[j18.toNat]?) fun (e171 : Int × (List ((List UInt8) × (List UInt8))) × (List ((List UInt8) × Int))) =>
                                                                                (if 0 ≤ a19 ∧ a19 < ((data19.set j18.toNat e169).length : Int) then
                                                                                (Option.bind ((data19.set j18.toNat e169)[a19.toNat]?) fun (e172 : Int × (List ((List UInt8) × (List UInt8))) × (List ((List UInt8) × Int))) =>
                                                                                (some (j18, false, ((data19.set j18.toNat e169).set a19.toNat e170))))
                                                                                else none))
                                                                                else none))
                                                                                else none))
                                                                                else none)
                                                                                else
                                                                                (if 0 ≤ j18 ∧ j18 < (data19.length : Int) then
                                                                                (Option.bind (data19[j18.toNat]?) fun (e173 : Int × (List ((List UInt8) × (List UInt8))) × (List ((List UInt8) × Int))) =>
                                                                                (if 0 ≤ i18 ∧ i18 < (data19.length : Int) then
                                                                                (Option.bind (data19[i18.toNat]?) fun (e174 : Int × (List ((List UInt8) × (List UInt8))) × (List ((List UInt8) × Int))) =>
                                                                                (if 0 ≤ i18 ∧ i18 < (data19.length : Int) then
                                                                                (Option.bind (data19[i18.toNat]?) fun (e175 : Int × (List ((List UInt8) × (List UInt8))) × (List ((List UInt8) × Int))) =>
                                                                                (if 0 ≤ j18 ∧ j18 < ((data19.set i18.toNat e173).length : Int) then
                                                                                (Option.bind ((data19.set i18.toNat e173)[j18.toNat]?) fun (e176 : Int × (List ((List UInt8) × (List UInt8))) × (List ((List UInt8) × Int))) =>
                                                                                (if fits (i18 + 1) then (if fits (j18 - 1) then (go16 (((data19.set i18.toNat e173).set j18.toNat e174), a19, cmp19, (i18 + 1), (j18 - 1))) else none) else none))
                                                                                else none))
                                                                                else none))
                                                                                else none))
                                                                                else none)))) N (data18, a18, cmp18, i17, j17)))))
                                                                        else none))
                                                                    else none)
                                                                  else
                                                                  (iter (fun (go19 : ((List (Int × (List ((List UInt8) × (List UInt8))) × (List ((List UInt8) × Int)))) × Int × (List ((List UInt8) × Bool)) × Int × Int) → Option (Int × Bool × (List (Int × (List ((List UInt8) × (List UInt8))) × (List ((List UInt8) × Int)))))) (g : (List (Int × (List ((List UInt8) × (List UInt8))) × (List ((List UInt8) × Int)))) × Int × (List ((List UInt8) × Bool)) × Int × Int) => 
                                                                      match g with
                                                                      | (data20, a20, cmp20, i19, j19) =>
                                                                      (bif (decide (i19 ≤ j19)) then
                                                                        (if 0 ≤ j19 ∧ j19 < (data20.length : Int) then
                                                                          (Option.bind (data20[j19.toNat]?) fun (e177 : Int × (List ((List UInt8) × (List UInt8))) × (List ((List UInt8) × Int))) =>
                                                                            (if 0 ≤ a20 ∧ a20 < (data20.length : Int) then
                                                                              (Option.bind (data20[a20.toNat]?) fun (e178 : Int × (List ((List UInt8) × (List UInt8))) × (List ((List UInt8) × Int))) =>
                                                                                (Option.bind (i_SortOf_1_m N e177.1 e177.2.1 e177.2.2 e178.1 e178.2.1 e178.2.2 cmp20) fun (r15 : Int) =>
                                                                                (bif (!(decide (r15 < 0))) then
                                                                                (if fits (j19 - 1) then (go19 (data20, a20, cmp20, i19, (j19 - 1))) else none)
                                                                                else
                                                                                (bif (decide (j19 < i19)) then
                                                                                (if 0 ≤ a20 ∧ a20 < (data20.length : Int) then
                                                                                (Option.bind (data20[a20.toNat]?) fun (e179 : Int × (List ((List UInt8) × (List UInt8))) × (List ((List UInt8) × Int))) =>
                                                                                (if 0 ≤ j19 ∧ j19 < (data20.length : Int) then
                                                                                (Option.bind (data20[j19.toNat]?) fun (e180 : Int × (List ((List UInt8) × (List UInt8))) × (List ((List UInt8) × Int))) =>
                                                                                (if 0 ≤ j19 ∧ j19 < (data20.length : Int) then
                                                                                (Option.bind (data20[j19.toNat]?) fun (e181 : Int × (List ((List UInt8) × (List UInt8))) × (List ((List UInt8) × Int))) =>
                                                                                (if 0 ≤ a20 ∧ a20 < ((data20.set j19.toNat e179).length : Int) then
                                                                                (Option.bind ((data20.set j19.toNat e179)[a20.toNat]?) fun (e182 : Int × (List ((List UInt8) × (List UInt8))) × (List ((List UInt8) × Int))) =>
                                                                                (some (j19, false, ((data20.set j19.toNat e179).set a20.toNat e180))))
                                                                                else none))
                                                                                else none))
                                                                                else none))
                                                                                else none)
                                                                                else
                                                                                (if 0 ≤ j19 ∧ j19 < (data20.length : Int) then
                                                                                (Option.bind (data20[j19.toNat]?) fun (e183 : Int × (List ((List UInt8) × (List UInt8))) × (List ((List UInt8) × Int))) =>
                                                                                (if 0 ≤ i19 ∧ i19 < (data20.length : Int) then
                                                                                (Option.bind (data20[i19.toNat]?) fun (e184 : Int × (List ((List UInt8) × (List UInt8))) × (List ((List UInt8) × Int))) =>
                                                                                (if 0 ≤ i19 ∧ i19 < (data20.length : Int) then
                                                                                (Option.bind (data20[i19.toNat]?) fun (e185 : Int × (List ((List UInt8) × (List UInt8))) × (List ((List UInt8) × Int))) =>
                                                                                (if 0 ≤ j19 ∧ j19 < ((data20.set i19.toNat e183).length : Int) then
                                                                                (Option.bind ((data20.set i19.toNat e183)[j19.toNat]?) fun (e186 : Int × (List ((List UInt8) × (List UInt8))) × (List ((List UInt8) × Int))) =>
                                                                                (if fits (i19 + 1) then (if fits (j19 - 1) then (go16 (((data20.set i19.toNat e183).set j19.toNat e184), a20, cmp20, (i19 + 1), (j19 - 1))) else none) else none))
                                                                                else none))
                                                                                else none))
                                                                                else none))
                                                                                else none)))))
                                                                              else none))
                                                                          else none)
                                                                        else
                                                                        (bif (decide (j19 < i19)) then
                                                                          (if 0 ≤ a20 ∧ a20 < (data20.length : Int) then
                                                                            (Option.bind (data20[a20.toNat]?) fun (e187 : Int × (List ((List UInt8) × (List UInt8))) × (List ((List UInt8) × Int))) =>
                                                                              (if 0 ≤ j19 ∧ j19 < (data20.length : Int) then
                                                                                (Option.bind (data20[j19.toNat]?) fun (e188 : Int × (List ((List UInt8) × (List UInt8))) × (List ((List UInt8) × Int))) =>
                                                                                (if 0 ≤ j19 ∧ j19 < (data20.length : Int) then
                                                                                (Option.bind (data20[j19.toNat]?) fun (e189 : Int × (List ((List UInt8) × (List UInt8))) × (List ((List UInt8) × Int))) =>
                                                                                (if 0 ≤ a20 ∧ a20 < ((data20.set j19.toNat e187).length : Int) then
                                                                                (Option.bind ((data20.set j19.toNat e187)[a20.toNat]?) fun (e190 : Int × (List ((List UInt8) × (List UInt8))) × (List ((List UInt8) × Int))) =>
                                                                                (some (j19, false, ((data20.set j19.toNat e187).set a20.toNat e188))))
                                                                                else none))
                                                                                else none))
                                                                                else none))
                                                                            else none)
                                                                          else
                                                                          (if 0 ≤ j19 ∧ j19 < (data20.length : Int) then
                                                                            (Option.bind (data20[j19.toNat]?) fun (e191 : Int × (List ((List UInt8) × (List UInt8))) × (List ((List UInt8) × Int))) =>
                                                                              (if 0 ≤ i19 ∧ i19 < (data20.length : Int) then
                                                                                (Option.bind (data20[i19.toNat]?) fun (e192 : Int × (List ((List UInt8) × (List UInt8))) × (List ((List UInt8) × Int))) =>
                                                                                (if 0 ≤ i19 ∧ i19 < (data20.length : Int) then
                                                                                (Option.bind (data20[i19.toNat]?) fun (e193 : Int × (List ((List UInt8) × (List UInt8))) × (List ((List UInt8) × Int))) =>
                                                                                (if 0 ≤ j19 ∧ j19 < ((data20.set i19.toNat e191).length : Int) then
                                                                                (Option.bind ((data20.set i19.toNat e191)[j19.toNat]?) fun (e194 : Int × (List ((List UInt8) × (List UInt8))) × (List ((List UInt8) × Int))) =>
                                                                                (if fits (i19 + 1) then (if fits (j19 - 1) then (go16 (((data20.set i19.toNat e191).set j19.toNat e192), a20, cmp20, (i19 + 1), (j19 - 1))) else none) else none))
                                                                                else none))
                                                                                else none))
                                                                                else none))
                                                                            else none)))) N (data18, a18, cmp18, i17, j17)))) N (data17, a17, cmp17, i16, j16))) N (((data12.set i11.toNat e153).set j11.toNat e154), a12, cmp12, (i11 + 1), (j11 - 1))) else none) else none))
                                                  else none))
                                              else none))
                                          else none))
                                      else none)))) N (data2, a2, cmp2, i, j)))) N (((data.set a.toNat e).set pivot.toNat e2), a, cmp, (a + 1), (b - 1))) else none) else none))
                else none))
            else none))
        else none))
    else none)
def k_slices_partitionCmpFunc_789_M (N : Nat) : Model := ⟨k_slices_partitionCmpFunc_789_arg, k_slices_partitionCmpFunc_789_ret, fun a => k_slices_partitionCmpFunc_789_m N a.1 a.2.1 a.2.2.1 a.2.2.2.1 a.2.2.2.2⟩
set_option maxRecDepth 1000000 in
theorem k_slices_partitionCmpFunc_789_ok (N : Nat) : ModelOk Try.prog 97 (k_slices_partitionCmpFunc_789_M N) :=
  modelOk_of (E := mkEnv [(59, i_SortOf_1_M N)] [] [800000]) (mkEnv_ok (fnsOk_cons (i_SortOf_1_ok N) fnsOk_nil) _ _) Try.func97 (by kernel_rfl) rfl N k_slices_partitionCmpFunc_789_h (k_slices_partitionCmpFunc_789_M N) (by kernel_rfl) (by kernel_rfl) (fun a => by kernel_rfl)
/-! slices.pdqsortCmpFunc[loop.example/fossick/impl.Doc] -/
def k_slices_pdqsortCmpFunc_895_arg : Sh := ⟨[.mtk 800000 (.pair (.int .i64) (.pair (.sl (.pair .str .str)) (.sl (.pair .str (.int .i64))))) 33 false, .pv (.int .i64), .pv (.int .i64), .pv (.int .i64), .clo 59 [.ptr (.sl (.pair .str .bool))]], []⟩
def k_slices_pdqsortCmpFunc_895_ret : Sh := ⟨[.tup [], .mtk 800000 (.pair (.int .i64) (.pair (.sl (.pair .str .str)) (.sl (.pair .str (.int .i64))))) 33 false], []⟩
def k_slices_pdqsortCmpFunc_895_s1 : Sh := ⟨[.mtk 800000 (.pair (.int .i64) (.pair (.sl (.pair .str .str)) (.sl (.pair .str (.int .i64))))) 33 false, .pv (.int .i64), .pv (.int .i64), .pv (.int .i64), .clo 59 [.ptr (.sl (.pair .str .bool))], .dead, .dead, .dead, .dead, .dead, .pv .bool, .pv .bool, .dead, .dead, .dead, .dead, .dead, .dead, .dead, .dead, .dead, .dead, .dead, .dead, .dead, .dead, .dead, .dead, .dead, .dead, .dead, .dead, .dead, .dead, .dead, .dead, .dead, .dead, .dead, .dead, .dead, .dead, .dead, .dead, .dead, .dead, .dead, .dead, .dead, .dead, .dead, .dead, .dead, .dead, .dead, .dead, .dead, .dead, .dead, .dead, .dead, .dead, .dead, .dead, .dead, .dead, .dead, .dead, .dead, .dead, .dead, .dead, .dead, .dead, .dead, .dead, .dead, .dead, .dead, .dead, .dead, .dead, .dead, .dead, .dead, .dead, .dead, .dead, .dead, .dead, .dead, .dead, .dead, .dead, .dead, .dead, .dead, .dead, .dead, .dead, .dead, .dead, .dead, .dead, .dead, .dead, .dead, .dead, .dead, .dead, .dead, .dead, .dead, .dead, .dead, .dead, .dead, .dead, .dead, .dead, .dead, .dead, .dead, .dead, .dead, .dead, .dead, .dead, .dead, .dead, .dead, .dead, .dead, .dead, .dead, .dead, .dead, .dead, .dead, .dead, .dead, .dead, .dead, .dead, .dead, .dead, .dead, .dead], []⟩
def k_slices_pdqsortCmpFunc_895_s2 : Sh := ⟨[.mtk 800000 (.pair (.int .i64) (.pair (.sl (.pair .str .str)) (.sl (.pair .str (.int .i64))))) 33 false, .pv (.int .i64), .pv (.int .i64), .pv (.int .i64), .clo 59 [.ptr (.sl (.pair .str .bool))], .dead, .dead, .dead, .dead, .dead, .pv .bool, .pv .bool, .pv (.int .i64), .pv (.int .i64), .dead, .dead, .dead, .dead, .dead, .dead, .dead, .dead, .dead, .dead, .dead, .dead, .dead, .dead, .dead, .dead, .dead, .dead, .dead, .dead, .dead, .dead, .dead, .dead, .dead, .dead, .dead, .dead, .dead, .dead, .dead, .dead, .dead, .dead, .dead, .dead, .dead, .dead, .dead, .dead, .dead, .dead, .dead, .dead, .dead, .dead, .dead, .dead, .dead, .dead, .dead, .dead, .dead, .dead, .dead, .dead, .dead, .dead, .dead, .dead, .dead, .dead, .dead, .dead, .dead, .dead, .dead, .dead, .dead, .dead, .dead, .dead, .dead, .dead, .dead, .dead, .dead, .dead, .dead, .dead, .dead, .dead, .dead, .dead, .dead, .dead, .dead, .dead, .dead, .dead, .dead, .dead, .dead, .dead, .dead, .dead, .dead, .dead, .dead, .dead, .dead, .dead, .dead, .dead, .dead, .dead, .dead, .dead, .dead, .dead, .dead, .dead, .dead, .dead, .dead, .dead, .dead, .dead, .dead, .dead, .dead, .dead, .dead, .dead, .dead, .dead, .dead, .dead, .dead, .dead, .dead, .dead, .dead, .dead], []⟩
def k_slices_pdqsortCmpFunc_895_s3 : Sh := ⟨[.mtk 800000 (.pair (.int .i64) (.pair (.sl (.pair .str .str)) (.sl (.pair .str (.int .i64))))) 33 false, .pv (.int .i64), .pv (.int .i64), .pv (.int .i64), .clo 59 [.ptr (.sl (.pair .str .bool))], .dead, .dead, .dead, .dead, .dead, .pv .bool, .pv .bool, .pv (.int .i64), .pv (.int .i64), .pv (.int .i64), .dead, .dead, .dead, .dead, .dead, .dead, .dead, .dead, .dead, .dead, .dead, .dead, .dead, .dead, .dead, .dead, .dead, .dead, .dead, .dead, .dead, .dead, .dead, .dead, .dead, .dead, .dead, .dead, .dead, .dead, .dead, .dead, .dead, .dead, .dead, .dead, .dead, .dead, .dead, .dead, .dead, .dead, .dead, .dead, .dead, .dead, .dead, .dead, .dead, .dead, .dead, .dead, .dead, .dead, .dead, .dead, .dead, .dead, .dead, .dead, .dead, .dead, .dead, .dead, .dead, .dead, .dead, .dead, .dead, .dead, .dead, .dead, .dead, .dead, .dead, .dead, .dead, .dead, .dead, .dead, .dead, .dead, .dead, .dead, .dead, .dead, .dead, .dead, .dead, .dead, .dead, .dead, .dead, .dead, .dead, .dead, .dead, .dead, .dead, .dead, .dead, .dead, .dead, .dead, .dead, .dead, .dead, .dead, .dead, .dead, .dead, .dead, .dead, .dead, .dead, .dead, .dead, .dead, .dead, .dead, .dead, .dead, .dead, .dead, .dead, .dead, .dead, .dead, .dead, .dead, .dead, .dead, .dead], []⟩
def k_slices_pdqsortCmpFunc_895_s4 : Sh := ⟨[.mtk 800000 (.pair (.int .i64) (.pair (.sl (.pair .str .str)) (.sl (.pair .str (.int .i64))))) 33 false, .pv (.int .i64), .pv (.int .i64), .pv (.int .i64), .clo 59 [.ptr (.sl (.pair .str .bool))], .dead, .dead, .dead, .dead, .dead, .pv .bool, .pv .bool, .pv (.int .i64), .dead, .dead, .dead, .dead, .dead, .dead, .dead, .dead, .dead, .dead, .dead, .dead, .dead, .dead, .dead, .dead, .dead, .dead, .dead, .dead, .dead, .dead, .dead, .dead, .dead, .dead, .dead, .dead, .dead, .dead, .dead, .dead, .dead, .dead, .dead, .dead, .dead, .dead, .dead, .dead, .dead, .dead, .dead, .dead, .dead, .dead, .dead, .dead, .dead, .dead, .dead, .dead, .dead, .dead, .dead, .dead, .dead, .dead, .dead, .dead, .dead, .dead, .dead, .dead, .dead, .dead, .dead, .dead, .dead, .dead, .dead, .dead, .dead, .dead, .dead, .dead, .dead, .dead, .dead, .dead, .dead, .dead, .dead, .dead, .dead, .dead, .dead, .dead, .dead, .dead, .dead, .dead, .dead, .dead, .dead, .dead, .dead, .dead, .dead, .dead, .dead, .dead, .dead, .dead, .dead, .dead, .dead, .dead, .dead, .dead, .dead, .dead, .dead, .dead, .dead, .dead, .dead, .dead, .dead, .dead, .dead, .dead, .dead, .dead, .dead, .dead, .dead, .dead, .dead, .dead, .dead, .dead, .dead, .dead, .dead], []⟩
def k_slices_pdqsortCmpFunc_895_h : Hint := (.seq .no (.seq .no (.block (.loop k_slices_pdqsortCmpFunc_895_s1 (.block (.seq .no (.seq .no (.seq .no (.meet k_slices_pdqsortCmpFunc_895_s4 .no (.seq .no (.meet k_slices_pdqsortCmpFunc_895_s3 .no (.meet k_slices_pdqsortCmpFunc_895_s2 .no .no))))))))))))
def k_slices_pdqsortCmpFunc_895_m (N : Nat) : (D : Nat) → (List (Int × (List ((List UInt8) × (List UInt8))) × (List ((List UInt8) × Int)))) → Int → Int → Int → (List ((List UInt8) × Bool)) → Option ((List (Int × (List ((List UInt8) × (List UInt8))) × (List ((List UInt8) × Int)))))
  | 0, _, _, _, _, _ => none
  | D + 1, data, a, b, limit, cmp =>
  (iter (fun (go : ((List (Int × (List ((List UInt8) × (List UInt8))) × (List ((List UInt8) × Int)))) × Int × Int × Int × (List ((List UInt8) × Bool)) × Bool × Bool) → Option ((List (Int × (List ((List UInt8) × (List UInt8))) × (List ((List UInt8) × Int)))))) (g : (List (Int × (List ((List UInt8) × (List UInt8))) × (List ((List UInt8) × Int)))) × Int × Int × Int × (List ((List UInt8) × Bool)) × Bool × Bool) => 
      match g with
      | (data2, a2, b2, limit2, cmp2, wasBalanced, wasPartitioned) =>
      (if fits (b2 - a2) then (bif (decide ((b2 - a2) ≤ 12)) then
          (Option.bind (k_slices_insertionSortCmpFunc_424_m N data2 a2 b2 cmp2) fun (r : (List (Int × (List ((List UInt8) × (List UInt8))) × (List ((List UInt8) × Int))))) =>
            (some r))
          else
          (bif (decide (limit2 = 0)) then
            (Option.bind (k_slices_heapSortCmpFunc_308_m N data2 a2 b2 cmp2) fun (r2 : (List (Int × (List ((List UInt8) × (List UInt8))) × (List ((List UInt8) × Int))))) =>
              (some r2))
            else
            (meet (fun (g : (List (Int × (List ((List UInt8) × (List UInt8))) × (List ((List UInt8) × Int)))) × Int × Int × Int × (List ((List UInt8) × Bool)) × Bool × Bool × Int) => 
                match g with
                | (data3, a3, b3, limit3, cmp3, wasBalanced2, wasPartitioned2, length) =>
                (Option.bind (k_slices_choosePivotCmpFunc_156_m N data3 a3 b3 cmp3) fun (r4 : Int × Int × (List (Int × (List ((List UInt8) × (List UInt8))) × (List ((List UInt8) × Int))))) =>
                  (meet (fun (g : (List (Int × (List ((List UInt8) × (List UInt8))) × (List ((List UInt8) × Int)))) × Int × Int × Int × (List ((List UInt8) × Bool)) × Bool × Bool × Int × Int × Int) => 
                      match g with
                      | (data4, a4, b4, limit4, cmp4, wasBalanced3, wasPartitioned3, length2, pivot, hint) =>
                      (meet (fun (g : (List (Int × (List ((List UInt8) × (List UInt8))) × (List ((List UInt8) × Int)))) × Int × Int × Int × (List ((List UInt8) × Bool)) × Bool × Bool × Int × Int) => 
                          match g with
                          | (data5, a5, b5, limit5, cmp5, wasBalanced4, wasPartitioned4, length3, pivot2) =>
                          (bif (decide ((0 : Int) < a5)) then
                            (if fits (a5 - 1) then (if 0 ≤ (a5 - 1) ∧ (a5 - 1) < (data5.length : Int) then
                                (Option.bind (data5[(a5 - 1).toNat]?) fun (e : Int × (List ((List UInt8) × (List UInt8))) × (List ((List UInt8) × Int))) =>
                                  (if 0 ≤ pivot2 ∧ pivot2 < (data5.length : Int) then
                                    (Option.bind (data5[pivot2.toNat]?) fun (e2 : Int × (List ((List UInt8) × (List UInt8))) × (List ((List UInt8) × Int))) =>
                                      (Option.bind (i_SortOf_1_m N e.1 e.2.1 e.2.2 e2.1 e2.2.1 e2.2.2 cmp5) fun (r7 : Int) =>
                                        (bif (!(decide (r7 < 0))) then
                                          (Option.bind (k_slices_partitionEqualCmpFunc_776_m N data5 a5 b5 pivot2 cmp5) fun (r8 : Int × (List (Int × (List ((List UInt8) × (List UInt8))) × (List ((List UInt8) × Int))))) =>
                                            (go (r8.2, r8.1, b5, limit5, cmp5, wasBalanced4, wasPartitioned4)))
                                          else
                                          (Option.bind (k_slices_partitionCmpFunc_789_m N data5 a5 b5 pivot2 cmp5) fun (r9 : Int × Bool × (List (Int × (List ((List UInt8) × (List UInt8))) × (List ((List UInt8) × Int))))) =>
                                            (if fits (r9.1 - a5) then (if fits (b5 - r9.1) then (if 8 ≠ 0 then
                                                  (if fits (length3.tdiv 8) then (bif (decide ((r9.1 - a5) < (b5 - r9.1))) then
                                                      (Option.bind (k_slices_pdqsortCmpFunc_895_m N D r9.2.2 a5 r9.1 limit5 cmp5) fun (r10 : (List (Int × (List ((List UInt8) × (List UInt8))) × (List ((List UInt8) × Int))))) =>
                                                        (if fits (r9.1 + 1) then (go (r10, (r9.1 + 1), b5, limit5, cmp5, (decide ((length3.tdiv 8) ≤ (r9.1 - a5))), r9.2.1)) else none))
                                                      else
                                                      (if fits (r9.1 + 1) then (Option.bind (k_slices_pdqsortCmpFunc_895_m N D r9.2.2 (r9.1 + 1) b5 limit5 cmp5) fun (r11 : (List (Int × (List ((List UInt8) × (List UInt8))) × (List ((List UInt8) × Int))))) =>
                                                          (go (r11, a5, r9.1, limit5, cmp5, (decide ((length3.tdiv 8) ≤ (b5 - r9.1))), r9.2.1))) else none)) else none)
                                                  else none) else none) else none)))))
                                    else none))
                                else none) else none)
                            else
                            (Option.bind (k_slices_partitionCmpFunc_789_m N data5 a5 b5 pivot2 cmp5) fun (r12 : Int × Bool × (List (Int × (List ((List UInt8) × (List UInt8))) × (List ((List UInt8) × Int))))) =>
                              (if fits (r12.1 - a5) then (if fits (b5 - r12.1) then (if 8 ≠ 0 then
                                    (if fits (length3.tdiv 8) then (bif (decide ((r12.1 - a5) < (b5 - r12.1))) then
                                        (Option.bind (k_slices_pdqsortCmpFunc_895_m N D r12.2.2 a5 r12.1 limit5 cmp5) fun (r13 : (List (Int × (List ((List UInt8) × (List UInt8))) × (List ((List UInt8) × Int))))) =>
                                          (if fits (r12.1 + 1) then (go (r13, (r12.1 + 1), b5, limit5, cmp5, (decide ((length3.tdiv 8) ≤ (r12.1 - a5))), r12.2.1)) else none))
                                        else
                                        (if fits (r12.1 + 1) then (Option.bind (k_slices_pdqsortCmpFunc_895_m N D r12.2.2 (r12.1 + 1) b5 limit5 cmp5) fun (r14 : (List (Int × (List ((List UInt8) × (List UInt8))) × (List ((List UInt8) × Int))))) =>
                                            (go (r14, a5, r12.1, limit5, cmp5, (decide ((length3.tdiv 8) ≤ (b5 - r12.1))), r12.2.1))) else none)) else none)
                                    else none) else none) else none)))) fun (J3 : ((List (Int × (List ((List UInt8) × (List UInt8))) × (List ((List UInt8) × Int)))) × Int × Int × Int × (List ((List UInt8) × Bool)) × Bool × Bool × Int × Int) → Option ((List (Int × (List ((List UInt8) × (List UInt8))) × (List ((List UInt8) × Int)))))) =>
                        (bif wasBalanced3 then
                          (bif wasPartitioned3 then
                            (bif (decide (hint = 1)) then
                              (Option.bind (k_slices_partialInsertionSortCmpFunc_281_m N data4 a4 b4 cmp4) fun (r6 : Bool × (List (Int × (List ((List UInt8) × (List UInt8))) × (List ((List UInt8) × Int))))) =>
                                (bif r6.1 then
                                  (some r6.2)
                                  else
                                  (J3 (r6.2, a4, b4, limit4, cmp4, wasBalanced3, wasPartitioned3, length2, pivot))))
                              else
                              (J3 (data4, a4, b4, limit4, cmp4, wasBalanced3, wasPartitioned3, length2, pivot)))
                            else
                            (J3 (data4, a4, b4, limit4, cmp4, wasBalanced3, wasPartitioned3, length2, pivot)))
                          else
                          (J3 (data4, a4, b4, limit4, cmp4, wasBalanced3, wasPartitioned3, length2, pivot))))) fun (J2 : ((List (Int × (List ((List UInt8) × (List UInt8))) × (List ((List UInt8) × Int)))) × Int × Int × Int × (List ((List UInt8) × Bool)) × Bool × Bool × Int × Int × Int) → Option ((List (Int × (List ((List UInt8) × (List UInt8))) × (List ((List UInt8) × Int)))))) =>
                    (bif (decide (r4.2.1 = 2)) then
                      (Option.bind (k_slices_reverseRangeCmpFunc_583_m N r4.2.2 a3 b3 cmp3) fun (r5 : (List (Int × (List ((List UInt8) × (List UInt8))) × (List ((List UInt8) × Int))))) =>
                        (if fits (b3 - 1) then (if fits (r4.1 - a3) then (if fits ((b3 - 1) - (r4.1 - a3)) then (J2 (r5, a3, b3, limit3, cmp3, wasBalanced2, wasPartitioned2, length, ((b3 - 1) - (r4.1 - a3)), 1)) else none) else none) else none))
                      else
                      (J2 (r4.2.2, a3, b3, limit3, cmp3, wasBalanced2, wasPartitioned2, length, r4.1, r4.2.1)))))) fun (J : ((List (Int × (List ((List UInt8) × (List UInt8))) × (List ((List UInt8) × Int)))) × Int × Int × Int × (List ((List UInt8) × Bool)) × Bool × Bool × Int) → Option ((List (Int × (List ((List UInt8) × (List UInt8))) × (List ((List UInt8) × Int)))))) =>
              (bif (!wasBalanced) then
                (Option.bind (k_slices_breakPatternsCmpFunc_337_m N data2 a2 b2 cmp2) fun (r3 : (List (Int × (List ((List UInt8) × (List UInt8))) × (List ((List UInt8) × Int))))) =>
                  (if fits (limit2 - 1) then (J (r3, a2, b2, (limit2 - 1), cmp2, wasBalanced, wasPartitioned, (b2 - a2))) else none))
                else
                (J (data2, a2, b2, limit2, cmp2, wasBalanced, wasPartitioned, (b2 - a2))))))) else none)) N (data, a, b, limit, cmp, true, true))
def k_slices_pdqsortCmpFunc_895_M (N D : Nat) : Model := ⟨k_slices_pdqsortCmpFunc_895_arg, k_slices_pdqsortCmpFunc_895_ret, fun a => k_slices_pdqsortCmpFunc_895_m N D a.1 a.2.1 a.2.2.1 a.2.2.2.1 a.2.2.2.2⟩
set_option maxRecDepth 1000000 in
theorem k_slices_pdqsortCmpFunc_895_ok (N : Nat) : ∀ D, ModelOk Try.prog 84 (k_slices_pdqsortCmpFunc_895_M N D)
  | 0 => modelOk_none ⟨_, Try.func84, by decide, by kernel_rfl⟩ _ (fun a => rfl)
  | D + 1 =>
  modelOk_of (E := mkEnv [(84, k_slices_pdqsortCmpFunc_895_M N D), (90, k_slices_insertionSortCmpFunc_424_M N), (91, k_slices_heapSortCmpFunc_308_M N), (92, k_slices_breakPatternsCmpFunc_337_M N), (93, k_slices_choosePivotCmpFunc_156_M N), (94, k_slices_reverseRangeCmpFunc_583_M N), (95, k_slices_partialInsertionSortCmpFunc_281_M N), (59, i_SortOf_1_M N), (96, k_slices_partitionEqualCmpFunc_776_M N), (97, k_slices_partitionCmpFunc_789_M N)] [] [800000]) (mkEnv_ok (fnsOk_cons (k_slices_pdqsortCmpFunc_895_ok N D) (fnsOk_cons (k_slices_insertionSortCmpFunc_424_ok N) (fnsOk_cons (k_slices_heapSortCmpFunc_308_ok N) (fnsOk_cons (k_slices_breakPatternsCmpFunc_337_ok N) (fnsOk_cons (k_slices_choosePivotCmpFunc_156_ok N) (fnsOk_cons (k_slices_reverseRangeCmpFunc_583_ok N) (fnsOk_cons (k_slices_partialInsertionSortCmpFunc_281_ok N) (fnsOk_cons (i_SortOf_1_ok N) (fnsOk_cons (k_slices_partitionEqualCmpFunc_776_ok N) (fnsOk_cons (k_slices_partitionCmpFunc_789_ok N) fnsOk_nil)))))))))) _ _) Try.func84 (by kernel_rfl) rfl N k_slices_pdqsortCmpFunc_895_h (k_slices_pdqsortCmpFunc_895_M N (D + 1)) (by kernel_rfl) (by kernel_rfl) (fun a => by kernel_rfl)
/-! slices.SortFunc[[]loop.example/fossick/impl.Doc,loop.example/fossick/impl.Doc] -/
def k_slices_SortFunc_669_arg : Sh := ⟨[.mtk 800000 (.pair (.int .i64) (.pair (.sl (.pair .str .str)) (.sl (.pair .str (.int .i64))))) 33 false, .clo 59 [.ptr (.sl (.pair .str .bool))]], []⟩
def k_slices_SortFunc_669_ret : Sh := ⟨[.tup [], .mtk 800000 (.pair (.int .i64) (.pair (.sl (.pair .str .str)) (.sl (.pair .str (.int .i64))))) 33 false], []⟩
def k_slices_SortFunc_669_h : Hint := .no
def k_slices_SortFunc_669_m (N : Nat) (x : List (Int × (List ((List UInt8) × (List UInt8))) × (List ((List UInt8) × Int)))) (cmp : List ((List UInt8) × Bool)) : Option ((List (Int × (List ((List UInt8) × (List UInt8))) × (List ((List UInt8) × Int))))) :=
  (Option.bind (k_math_bits_Len_m N (IntKind.u64.wrap (x.length : Int))) fun (r : Int) =>
    (Option.bind (k_slices_pdqsortCmpFunc_895_m N N x 0 (x.length : Int) r cmp) fun (r2 : (List (Int × (List ((List UInt8) × (List UInt8))) × (List ((List UInt8) × Int))))) =>
      (some r2)))
def k_slices_SortFunc_669_M (N : Nat) : Model := ⟨k_slices_SortFunc_669_arg, k_slices_SortFunc_669_ret, fun a => k_slices_SortFunc_669_m N a.1 a.2⟩
set_option maxRecDepth 1000000 in
theorem k_slices_SortFunc_669_ok (N : Nat) : ModelOk Try.prog 58 (k_slices_SortFunc_669_M N) :=
  modelOk_of (E := mkEnv [(85, k_math_bits_Len_M N), (84, k_slices_pdqsortCmpFunc_895_M N N)] [] [800000]) (mkEnv_ok (fnsOk_cons (k_math_bits_Len_ok N) (fnsOk_cons (k_slices_pdqsortCmpFunc_895_ok N N) fnsOk_nil)) _ _) Try.func58 (by kernel_rfl) rfl N k_slices_SortFunc_669_h (k_slices_SortFunc_669_M N) (by kernel_rfl) (by kernel_rfl) (fun a => by kernel_rfl)
/-! loop.example/fossick/impl.idsOf -/
def i_idsOf_arg : Sh := ⟨[.pv (.sl (.pair (.int .i64) (.pair (.sl (.pair .str .str)) (.sl (.pair .str (.int .i64))))))], []⟩
def i_idsOf_ret : Sh := ⟨[.own 1 (.int .i64) 3 true], []⟩
def i_idsOf_s1 : Sh := ⟨[.dead, .dead, .dead, .own 600003 (.int .i64) 3 true, .dead, .dead, .dead, .pv (.sl (.pair (.int .i64) (.pair (.sl (.pair .str .str)) (.sl (.pair .str (.int .i64)))))), .pv (.int .i64), .pv (.int .i64), .dead, .dead, .dead, .dead, .dead, .dead, .dead, .dead, .dead, .dead], []⟩
def i_idsOf_h : Hint := (.seq .no (.seq .no (.seq (.seq .no (.block (.loop i_idsOf_s1 .no))) .no)))
def i_idsOf_m (N : Nat) (docs : List (Int × (List ((List UInt8) × (List UInt8))) × (List ((List UInt8) × Int)))) : Option ((List Int)) :=
  (iter (fun (go : ((List Int) × (List (Int × (List ((List UInt8) × (List UInt8))) × (List ((List UInt8) × Int)))) × Int × Int) → Option ((List Int))) (g : (List Int) × (List (Int × (List ((List UInt8) × (List UInt8))) × (List ((List UInt8) × Int)))) × Int × Int) => 
      match g with
      | (out, t7, t8, t9) =>
      (bif (decide (t9 < t8)) then
        (Option.bind (idx t7 t9) fun (e : Int × (List ((List UInt8) × (List UInt8))) × (List ((List UInt8) × Int))) =>
          (if room out.length ([e.1] : List Int).length 8 then
            (if fits (t9 + 1) then (go ((out ++ ([e.1] : List Int)), t7, t8, (t9 + 1))) else none)
            else none))
        else
        (some out))) N (([] : List Int), docs, (docs.length : Int), 0))
def i_idsOf_M (N : Nat) : Model := ⟨i_idsOf_arg, i_idsOf_ret, fun a => i_idsOf_m N a⟩
set_option maxRecDepth 1000000 in
theorem i_idsOf_ok (N : Nat) : ModelOk Try.prog 60 (i_idsOf_M N) :=
  modelOk_of (E := mkEnv [] [] []) (mkEnv_ok fnsOk_nil _ _) Try.func60 (by kernel_rfl) rfl N i_idsOf_h (i_idsOf_M N) (by kernel_rfl) (by kernel_rfl) (fun a => by kernel_rfl)
/-! loop.example/fossick/impl.SortOf -/
def i_SortOf_arg : Sh := ⟨[.pv (.sl (.pair (.int .i64) (.pair (.sl (.pair .str .str)) (.sl (.pair .str (.int .i64)))))), .pv (.sl (.pair .str .bool))], []⟩
def i_SortOf_ret : Sh := ⟨[.own 1 (.int .i64) 3 true], []⟩
def i_SortOf_h : Hint := .no
def i_SortOf_m (N : Nat) (docs : List (Int × (List ((List UInt8) × (List UInt8))) × (List ((List UInt8) × Int)))) (keys : List ((List UInt8) × Bool)) : Option ((List Int)) :=
  (Option.bind (i_DocsOk_m N docs) fun (r : Bool) =>
    (bif (!r) then
      (some ([] : List Int))
      else
      (Option.bind (i_keysOk_m N keys) fun (r2 : Bool) =>
        (bif (!r2) then
          (some ([] : List Int))
          else
          (if room ([] : List (Int × (List ((List UInt8) × (List UInt8))) × (List ((List UInt8) × Int)))).length docs.length 56 then
            (Option.bind (k_slices_SortFunc_669_m N (([] : List (Int × (List ((List UInt8) × (List UInt8))) × (List ((List UInt8) × Int)))) ++ docs) keys) fun (r3 : (List (Int × (List ((List UInt8) × (List UInt8))) × (List ((List UInt8) × Int))))) =>
              (Option.bind (i_idsOf_m N r3) fun (r4 : (List Int)) =>
                (some r4)))
            else none)))))
def i_SortOf_M (N : Nat) : Model := ⟨i_SortOf_arg, i_SortOf_ret, fun a => i_SortOf_m N a.1 a.2⟩
set_option maxRecDepth 1000000 in
theorem i_SortOf_ok (N : Nat) : ModelOk Try.prog 20 (i_SortOf_M N) :=
  modelOk_of (E := mkEnv [(24, i_DocsOk_M N), (47, i_keysOk_M N), (58, k_slices_SortFunc_669_M N), (60, i_idsOf_M N)] [14, 15, 17] []) (mkEnv_ok (fnsOk_cons (i_DocsOk_ok N) (fnsOk_cons (i_keysOk_ok N) (fnsOk_cons (k_slices_SortFunc_669_ok N) (fnsOk_cons (i_idsOf_ok N) fnsOk_nil)))) _ _) Try.func20 (by kernel_rfl) rfl N i_SortOf_h (i_SortOf_M N) (by kernel_rfl) (by kernel_rfl) (fun a => by kernel_rfl)
/-! loop.example/fossick/laws.FnSortLess -/
def l_FnSortLess_arg : Sh := ⟨[.pv (.sl (.int .u8)), .pv (.sl (.int .u8))], []⟩
def l_FnSortLess_ret : Sh := ⟨[.pv .bool], []⟩
def l_FnSortLess_h : Hint := .no
def l_FnSortLess_m (N : Nat) (code : List Int) (more : List Int) : Option (Bool) :=
  (bif (decide ((1048576 : Int) < (code.length : Int))) then
    (some true)
    else
    (bif (decide ((1048576 : Int) < (more.length : Int))) then
      (some true)
      else
      (Option.bind (s_DrawSortLess_m N code) fun (r : Int × (List ((List UInt8) × (List UInt8))) × (List ((List UInt8) × Int)) × Int × (List ((List UInt8) × (List UInt8))) × (List ((List UInt8) × Int)) × (List ((List UInt8) × Bool))) =>
        (Option.bind (s_DrawSortLess_m N more) fun (r2 : Int × (List ((List UInt8) × (List UInt8))) × (List ((List UInt8) × Int)) × Int × (List ((List UInt8) × (List UInt8))) × (List ((List UInt8) × Int)) × (List ((List UInt8) × Bool))) =>
          (Option.bind (i_SortLess_m N r.1 r.2.1 r.2.2.1 r.2.2.2.1 r.2.2.2.2.1 r.2.2.2.2.2.1 r.2.2.2.2.2.2) fun (r3 : Bool) =>
            (Option.bind (s_SortLess_m N r.1 r.2.1 r.2.2.1 r.2.2.2.1 r.2.2.2.2.1 r.2.2.2.2.2.1 r.2.2.2.2.2.2) fun (r4 : Bool) =>
              (bif (!(r3 == r4)) then
                (some false)
                else
                (Option.bind (i_SortLess_m N r.2.2.2.1 r.2.2.2.2.1 r.2.2.2.2.2.1 r.1 r.2.1 r.2.2.1 r.2.2.2.2.2.2) fun (r5 : Bool) =>
                  (Option.bind (i_DocOk_m N r.1 r.2.1 r.2.2.1) fun (r6 : Bool) =>
                    (bif (!r6) then
                      (bif r3 then
                        (some (!r5))
                        else
                        (some true))
                      else
                      (Option.bind (i_DocOk_m N r.2.2.2.1 r.2.2.2.2.1 r.2.2.2.2.2.1) fun (r7 : Bool) =>
                        (bif (!r7) then
                          (bif r3 then
                            (some (!r5))
                            else
                            (some true))
                          else
                          (Option.bind (i_DocOk_m N r2.1 r2.2.1 r2.2.2.1) fun (r8 : Bool) =>
                            (bif (!r8) then
                              (bif r3 then
                                (some (!r5))
                                else
                                (some true))
                              else
                              (Option.bind (i_SortOf_m N ([(r.1, r.2.1, r.2.2.1)] : List (Int × (List ((List UInt8) × (List UInt8))) × (List ((List UInt8) × Int)))) r.2.2.2.2.2.2) fun (r9 : (List Int)) =>
                                (bif (decide ((r9.length : Int) = 0)) then
                                  (bif r3 then
                                    (some (!r5))
                                    else
                                    (some true))
                                  else
                                  (bif r3 then
                                    (bif (!r5) then
                                      (bif (decide (r.1 = r.2.2.2.1)) then
                                        (bif (!r3) then
                                          (some true)
                                          else
                                          (Option.bind (i_SortLess_m N r.2.2.2.1 r.2.2.2.2.1 r.2.2.2.2.2.1 r2.1 r2.2.1 r2.2.2.1 r.2.2.2.2.2.2) fun (r10 : Bool) =>
                                            (bif (!r10) then
                                              (some true)
                                              else
                                              (Option.bind (i_SortLess_m N r.1 r.2.1 r.2.2.1 r2.1 r2.2.1 r2.2.2.1 r.2.2.2.2.2.2) fun (r11 : Bool) =>
                                                (some r11)))))
                                        else
                                        (bif r3 then
                                          (bif (!r3) then
                                            (some true)
                                            else
                                            (Option.bind (i_SortLess_m N r.2.2.2.1 r.2.2.2.2.1 r.2.2.2.2.2.1 r2.1 r2.2.1 r2.2.2.1 r.2.2.2.2.2.2) fun (r12 : Bool) =>
                                              (bif (!r12) then
                                                (some true)
                                                else
                                                (Option.bind (i_SortLess_m N r.1 r.2.1 r.2.2.1 r2.1 r2.2.1 r2.2.2.1 r.2.2.2.2.2.2) fun (r13 : Bool) =>
                                                  (some r13)))))
                                          else
                                          (bif r5 then
                                            (bif (!r3) then
                                              (some true)
                                              else
                                              (Option.bind (i_SortLess_m N r.2.2.2.1 r.2.2.2.2.1 r.2.2.2.2.2.1 r2.1 r2.2.1 r2.2.2.1 r.2.2.2.2.2.2) fun (r14 : Bool) =>
                                                (bif (!r14) then
                                                  (some true)
                                                  else
                                                  (Option.bind (i_SortLess_m N r.1 r.2.1 r.2.2.1 r2.1 r2.2.1 r2.2.2.1 r.2.2.2.2.2.2) fun (r15 : Bool) =>
                                                    (some r15)))))
                                            else
                                            (some false))))
                                      else
                                      (some false))
                                    else
                                    (bif (decide (r.1 = r.2.2.2.1)) then
                                      (bif (!r3) then
                                        (some true)
                                        else
                                        (Option.bind (i_SortLess_m N r.2.2.2.1 r.2.2.2.2.1 r.2.2.2.2.2.1 r2.1 r2.2.1 r2.2.2.1 r.2.2.2.2.2.2) fun (r16 : Bool) =>
                                          (bif (!r16) then
                                            (some true)
                                            else
                                            (Option.bind (i_SortLess_m N r.1 r.2.1 r.2.2.1 r2.1 r2.2.1 r2.2.2.1 r.2.2.2.2.2.2) fun (r17 : Bool) =>
                                              (some r17)))))
                                      else
                                      (bif r3 then
                                        (bif (!r3) then
                                          (some true)
                                          else
                                          (Option.bind (i_SortLess_m N r.2.2.2.1 r.2.2.2.2.1 r.2.2.2.2.2.1 r2.1 r2.2.1 r2.2.2.1 r.2.2.2.2.2.2) fun (r18 : Bool) =>
                                            (bif (!r18) then
                                              (some true)
                                              else
                                              (Option.bind (i_SortLess_m N r.1 r.2.1 r.2.2.1 r2.1 r2.2.1 r2.2.2.1 r.2.2.2.2.2.2) fun (r19 : Bool) =>
                                                (some r19)))))
                                        else
                                        (bif r5 then
                                          (bif (!r3) then
                                            (some true)
                                            else
                                            (Option.bind (i_SortLess_m N r.2.2.2.1 r.2.2.2.2.1 r.2.2.2.2.2.1 r2.1 r2.2.1 r2.2.2.1 r.2.2.2.2.2.2) fun (r20 : Bool) =>
                                              (bif (!r20) then
                                                (some true)
                                                else
                                                (Option.bind (i_SortLess_m N r.1 r.2.1 r.2.2.1 r2.1 r2.2.1 r2.2.2.1 r.2.2.2.2.2.2) fun (r21 : Bool) =>
                                                  (some r21)))))
                                          else
                                          (some false)))))))))))))))))))))
def l_FnSortLess_M (N : Nat) : Model := ⟨l_FnSortLess_arg, l_FnSortLess_ret, fun a => l_FnSortLess_m N a.1 a.2⟩
set_option maxRecDepth 1000000 in
theorem l_FnSortLess_ok (N : Nat) : ModelOk Try.prog 4 (l_FnSortLess_M N) :=
  modelOk_of (E := mkEnv [(18, s_DrawSortLess_M N), (15, i_SortLess_M N), (12, s_SortLess_M N), (19, i_DocOk_M N), (20, i_SortOf_M N)] [] []) (mkEnv_ok (fnsOk_cons (s_DrawSortLess_ok N) (fnsOk_cons (i_SortLess_ok N) (fnsOk_cons (s_SortLess_ok N) (fnsOk_cons (i_DocOk_ok N) (fnsOk_cons (i_SortOf_ok N) fnsOk_nil))))) _ _) Try.func4 (by kernel_rfl) rfl N l_FnSortLess_h (l_FnSortLess_M N) (by kernel_rfl) (by kernel_rfl) (fun a => by kernel_rfl)
/-! loop.example/fossick/spec.l30Docs -/
def s_l30Docs_arg : Sh := ⟨[.box 900000 0], [(900000, false, [.pv (.sl (.int .u8)), .pv (.int .i64)])]⟩
def s_l30Docs_ret : Sh := ⟨[.own 1 (.pair (.int .i64) (.pair (.sl (.pair .str .str)) (.sl (.pair .str (.int .i64))))) 33 true], [(900000, false, [.pv (.sl (.int .u8)), .pv (.int .i64)])]⟩
def s_l30Docs_s1 : Sh := ⟨[.box 900000 0, .dead, .dead, .own 600003 (.pair (.int .i64) (.pair (.sl (.pair .str .str)) (.sl (.pair .str (.int .i64))))) 33 true, .pv (.int .i64), .pv (.int .i64), .dead, .dead, .dead, .dead, .dead, .dead, .dead, .dead, .dead, .dead, .dead, .dead, .dead, .dead, .dead, .dead, .dead, .dead, .dead], [(900000, false, [.pv (.sl (.int .u8)), .pv (.int .i64)])]⟩
def s_l30Docs_h : Hint := (.seq .no (.seq .no (.seq .no (.seq (.seq .no (.block (.loop s_l30Docs_s1 .no))) .no))))
def s_l30Docs_m (N : Nat) (b : List Int) (b2 : Int) : Option ((List (Int × (List ((List UInt8) × (List UInt8))) × (List ((List UInt8) × Int)))) × (List Int) × Int) :=
  (Option.bind (s_l30Rd_pick_m N 6 b b2) fun (r : Int × (List Int) × Int) =>
    (iter (fun (go : ((List (Int × (List ((List UInt8) × (List UInt8))) × (List ((List UInt8) × Int)))) × Int × Int × (List Int) × Int) → Option ((List (Int × (List ((List UInt8) × (List UInt8))) × (List ((List UInt8) × Int)))) × (List Int) × Int)) (g : (List (Int × (List ((List UInt8) × (List UInt8))) × (List ((List UInt8) × Int)))) × Int × Int × (List Int) × Int) => 
        match g with
        | (out, id, n, b3, b4) =>
        (bif (decide ((0 : Int) < n)) then
          (if fits (id + 1) then (Option.bind (s_l30Rd_pick_m N 3 b3 b4) fun (r2 : Int × (List Int) × Int) =>
              (if fits ((id + 1) + r2.1) then (Option.bind (s_l30Doc_m N ((id + 1) + r2.1) r2.2.1 r2.2.2) fun (r3 : Int × (List ((List UInt8) × (List UInt8))) × (List ((List UInt8) × Int)) × (List Int) × Int) =>
                  (if room out.length ([(r3.1, r3.2.1, r3.2.2.1)] : List (Int × (List ((List UInt8) × (List UInt8))) × (List ((List UInt8) × Int)))).length 56 then
                    (if fits (n - 1) then (go ((out ++ ([(r3.1, r3.2.1, r3.2.2.1)] : List (Int × (List ((List UInt8) × (List UInt8))) × (List ((List UInt8) × Int))))), ((id + 1) + r2.1), (n - 1), r3.2.2.2.1, r3.2.2.2.2)) else none)
                    else none)) else none)) else none)
          else
          (some (out, b3, b4)))) N (([] : List (Int × (List ((List UInt8) × (List UInt8))) × (List ((List UInt8) × Int)))), 0, r.1, r.2.1, r.2.2)))
def s_l30Docs_M (N : Nat) : Model := ⟨s_l30Docs_arg, s_l30Docs_ret, fun a => s_l30Docs_m N a.1 a.2⟩
set_option maxRecDepth 1000000 in
theorem s_l30Docs_ok (N : Nat) : ModelOk Try.prog 86 (s_l30Docs_M N) :=
  modelOk_of (E := mkEnv [(63, s_l30Rd_pick_M N), (79, s_l30Doc_M N)] [] [900000]) (mkEnv_ok (fnsOk_cons (s_l30Rd_pick_ok N) (fnsOk_cons (s_l30Doc_ok N) fnsOk_nil)) _ _) Try.func86 (by kernel_rfl) rfl N s_l30Docs_h (s_l30Docs_M N) (by kernel_rfl) (by kernel_rfl) (fun a => by kernel_rfl)
/-! loop.example/fossick/spec.l30AnyDocs -/
def s_l30AnyDocs_arg : Sh := ⟨[.box 900000 0], [(900000, false, [.pv (.sl (.int .u8)), .pv (.int .i64)])]⟩
def s_l30AnyDocs_ret : Sh := ⟨[.own 1 (.pair (.int .i64) (.pair (.sl (.pair .str .str)) (.sl (.pair .str (.int .i64))))) 33 true], [(900000, false, [.pv (.sl (.int .u8)), .pv (.int .i64)])]⟩
def s_l30AnyDocs_h : Hint := .no
def s_l30AnyDocs_m (N : Nat) (b : List Int) (b2 : Int) : Option ((List (Int × (List ((List UInt8) × (List UInt8))) × (List ((List UInt8) × Int)))) × (List Int) × Int) :=
  (Option.bind (s_l30Docs_m N b b2) fun (r : (List (Int × (List ((List UInt8) × (List UInt8))) × (List ((List UInt8) × Int)))) × (List Int) × Int) =>
    (Option.bind (s_l30Rd_pick_m N 10 r.2.1 r.2.2) fun (r2 : Int × (List Int) × Int) =>
      (bif (decide (r2.1 = 0)) then
        (Option.bind (s_l30AnyDoc_m N r2.2.1 r2.2.2) fun (r3 : Int × (List ((List UInt8) × (List UInt8))) × (List ((List UInt8) × Int)) × (List Int) × Int) =>
          (if room r.1.length ([(r3.1, r3.2.1, r3.2.2.1)] : List (Int × (List ((List UInt8) × (List UInt8))) × (List ((List UInt8) × Int)))).length 56 then
            (some ((r.1 ++ ([(r3.1, r3.2.1, r3.2.2.1)] : List (Int × (List ((List UInt8) × (List UInt8))) × (List ((List UInt8) × Int))))), r3.2.2.2.1, r3.2.2.2.2))
            else none))
        else
        (some (r.1, r2.2.1, r2.2.2)))))
def s_l30AnyDocs_M (N : Nat) : Model := ⟨s_l30AnyDocs_arg, s_l30AnyDocs_ret, fun a => s_l30AnyDocs_m N a.1 a.2⟩
set_option maxRecDepth 1000000 in
theorem s_l30AnyDocs_ok (N : Nat) : ModelOk Try.prog 61 (s_l30AnyDocs_M N) :=
  modelOk_of (E := mkEnv [(86, s_l30Docs_M N), (63, s_l30Rd_pick_M N), (53, s_l30AnyDoc_M N)] [] [900000]) (mkEnv_ok (fnsOk_cons (s_l30Docs_ok N) (fnsOk_cons (s_l30Rd_pick_ok N) (fnsOk_cons (s_l30AnyDoc_ok N) fnsOk_nil))) _ _) Try.func61 (by kernel_rfl) rfl N s_l30AnyDocs_h (s_l30AnyDocs_M N) (by kernel_rfl) (by kernel_rfl) (fun a => by kernel_rfl)
/-! loop.example/fossick/spec.DrawSortOf -/
def s_DrawSortOf_arg : Sh := ⟨[.pv (.sl (.int .u8))], []⟩
def s_DrawSortOf_ret : Sh := ⟨[.tup [.own 1 (.pair (.int .i64) (.pair (.sl (.pair .str .str)) (.sl (.pair .str (.int .i64))))) 33 true, .own 2 (.pair .str .bool) 53 true]], []⟩
def s_DrawSortOf_h : Hint := .no
def s_DrawSortOf_m (N : Nat) (code : List Int) : Option ((List (Int × (List ((List UInt8) × (List UInt8))) × (List ((List UInt8) × Int)))) × (List ((List UInt8) × Bool))) :=
  (Option.bind (s_l30Open_m N code) fun (r : (List Int) × Int) =>
    (Option.bind (s_l30AnyDocs_m N r.1 r.2) fun (r2 : (List (Int × (List ((List UInt8) × (List UInt8))) × (List ((List UInt8) × Int)))) × (List Int) × Int) =>
      (Option.bind (s_l30Keys_m N r2.2.1 r2.2.2) fun (r3 : (List ((List UInt8) × Bool)) × (List Int) × Int) =>
        (some (r2.1, r3.1)))))
def s_DrawSortOf_M (N : Nat) : Model := ⟨s_DrawSortOf_arg, s_DrawSortOf_ret, fun a => s_DrawSortOf_m N a⟩
set_option maxRecDepth 1000000 in
theorem s_DrawSortOf_ok (N : Nat) : ModelOk Try.prog 21 (s_DrawSortOf_M N) :=
  modelOk_of (E := mkEnv [(52, s_l30Open_M N), (61, s_l30AnyDocs_M N), (54, s_l30Keys_M N)] [] []) (mkEnv_ok (fnsOk_cons (s_l30Open_ok N) (fnsOk_cons (s_l30AnyDocs_ok N) (fnsOk_cons (s_l30Keys_ok N) fnsOk_nil))) _ _) Try.func21 (by kernel_rfl) rfl N s_DrawSortOf_h (s_DrawSortOf_M N) (by kernel_rfl) (by kernel_rfl) (fun a => by kernel_rfl)
/-! loop.example/fossick/spec.l6Docs -/
def s_l6Docs_arg : Sh := ⟨[.pv (.sl (.pair (.int .i64) (.pair (.sl (.pair .str .str)) (.sl (.pair .str (.int .i64))))))], []⟩
def s_l6Docs_ret : Sh := ⟨[.pv .bool], []⟩
def s_l6Docs_s1 : Sh := ⟨[.pv (.sl (.pair (.int .i64) (.pair (.sl (.pair .str .str)) (.sl (.pair .str (.int .i64)))))), .dead, .dead, .pv (.int .i64), .dead, .dead, .dead, .dead, .dead, .dead, .dead, .dead, .dead, .dead, .dead, .dead, .dead, .dead, .dead, .dead, .dead, .dead, .dead, .dead, .dead, .dead, .dead, .dead, .dead, .dead, .dead, .dead, .dead, .dead, .dead, .dead, .dead], []⟩
def s_l6Docs_h : Hint := (.seq .no (.seq (.seq .no (.block (.loop s_l6Docs_s1 .no))) .no))
def s_l6Docs_m (N : Nat) (list : List (Int × (List ((List UInt8) × (List UInt8))) × (List ((List UInt8) × Int)))) : Option (Bool) :=
  (iter (fun (go : ((List (Int × (List ((List UInt8) × (List UInt8))) × (List ((List UInt8) × Int)))) × Int) → Option Bool) (g : (List (Int × (List ((List UInt8) × (List UInt8))) × (List ((List UInt8) × Int)))) × Int) => 
      match g with
      | (list2, i) =>
      (bif (decide (i < (list2.length : Int))) then
        (Option.bind (idx list2 i) fun (e : Int × (List ((List UInt8) × (List UInt8))) × (List ((List UInt8) × Int))) =>
          (Option.bind (s_l6Ok_m N e.1 e.2.1 e.2.2) fun (r : Bool) =>
            (bif (!r) then
              (some false)
              else
              (bif (decide ((0 : Int) < i)) then
                (Option.bind (idx list2 i) fun (e2 : Int × (List ((List UInt8) × (List UInt8))) × (List ((List UInt8) × Int))) =>
                  (if fits (i - 1) then (Option.bind (idx list2 (i - 1)) fun (e3 : Int × (List ((List UInt8) × (List UInt8))) × (List ((List UInt8) × Int))) =>
                      (bif (decide (e2.1 ≤ e3.1)) then
                        (some false)
                        else
                        (if fits (i + 1) then (go (list2, (i + 1))) else none))) else none))
                else
                (if fits (i + 1) then (go (list2, (i + 1))) else none)))))
        else
        (some (decide ((list2.length : Int) ≤ 16))))) N (list, 0))
def s_l6Docs_M (N : Nat) : Model := ⟨s_l6Docs_arg, s_l6Docs_ret, fun a => s_l6Docs_m N a⟩
set_option maxRecDepth 1000000 in
theorem s_l6Docs_ok (N : Nat) : ModelOk Try.prog 62 (s_l6Docs_M N) :=
  modelOk_of (E := mkEnv [(41, s_l6Ok_M N)] [] []) (mkEnv_ok (fnsOk_cons (s_l6Ok_ok N) fnsOk_nil) _ _) Try.func62 (by kernel_rfl) rfl N s_l6Docs_h (s_l6Docs_M N) (by kernel_rfl) (by kernel_rfl) (fun a => by kernel_rfl)
/-! loop.example/fossick/spec.SortOf -/
def s_SortOf_arg : Sh := ⟨[.pv (.sl (.pair (.int .i64) (.pair (.sl (.pair .str .str)) (.sl (.pair .str (.int .i64)))))), .pv (.sl (.pair .str .bool))], []⟩
def s_SortOf_ret : Sh := ⟨[.own 1 (.int .i64) 3 true], []⟩
def s_SortOf_s1 : Sh := ⟨[.pv (.sl (.pair (.int .i64) (.pair (.sl (.pair .str .str)) (.sl (.pair .str (.int .i64)))))), .pv (.sl (.pair .str .bool)), .dead, .dead, .dead, .own 600005 (.pair (.int .i64) (.pair (.sl (.pair .str .str)) (.sl (.pair .str (.int .i64))))) 33 false, .pv (.int .i64), .dead, .dead, .dead, .dead, .dead, .dead, .dead, .dead, .dead, .dead, .dead, .dead, .dead, .dead, .dead, .dead, .dead, .dead, .dead, .dead, .dead, .dead, .dead, .dead, .dead, .dead, .dead, .dead, .dead, .dead, .dead, .dead, .dead, .dead, .dead, .dead, .dead, .dead, .dead, .dead, .dead, .dead, .dead, .dead, .dead, .dead, .dead, .dead, .dead, .dead, .dead, .dead, .dead, .dead, .dead, .dead, .dead, .dead, .dead, .dead, .dead, .dead, .dead, .dead, .dead, .dead, .dead, .dead, .dead, .dead], []⟩
def s_SortOf_s2 : Sh := ⟨[.pv (.sl (.pair (.int .i64) (.pair (.sl (.pair .str .str)) (.sl (.pair .str (.int .i64)))))), .pv (.sl (.pair .str .bool)), .dead, .dead, .dead, .own 600005 (.pair (.int .i64) (.pair (.sl (.pair .str .str)) (.sl (.pair .str (.int .i64))))) 33 false, .pv (.int .i64), .pv (.int .i64), .dead, .dead, .dead, .dead, .dead, .dead, .dead, .dead, .dead, .dead, .dead, .dead, .dead, .dead, .dead, .dead, .dead, .dead, .dead, .dead, .dead, .dead, .dead, .dead, .dead, .dead, .dead, .dead, .dead, .dead, .dead, .dead, .dead, .dead, .dead, .dead, .dead, .dead, .dead, .dead, .dead, .dead, .dead, .dead, .dead, .dead, .dead, .dead, .dead, .dead, .dead, .dead, .dead, .dead, .dead, .dead, .dead, .dead, .dead, .dead, .dead, .dead, .dead, .dead, .dead, .dead, .dead, .dead, .dead], []⟩
def s_SortOf_s3 : Sh := ⟨[.dead, .dead, .dead, .dead, .dead, .own 600005 (.pair (.int .i64) (.pair (.sl (.pair .str .str)) (.sl (.pair .str (.int .i64))))) 33 false, .dead, .dead, .dead, .own 600009 (.int .i64) 3 true, .pv (.int .i64), .dead, .dead, .dead, .dead, .dead, .dead, .dead, .dead, .dead, .dead, .dead, .dead, .dead, .dead, .dead, .dead, .dead, .dead, .dead, .dead, .dead, .dead, .dead, .dead, .dead, .dead, .dead, .dead, .dead, .dead, .dead, .dead, .dead, .dead, .dead, .dead, .dead, .dead, .dead, .dead, .dead, .dead, .dead, .dead, .dead, .dead, .dead, .dead, .dead, .dead, .dead, .dead, .dead, .dead, .dead, .dead, .dead, .dead, .dead, .dead, .dead, .dead, .dead, .dead, .dead, .dead], []⟩
def s_SortOf_h : Hint := (.seq .no (.seq .no (.seq .no (.seq (.seq .no (.block (.loop s_SortOf_s1 (.seq .no (.seq (.block (.seq .no (.seq (.block (.loop s_SortOf_s2 .no)) .no))) .no))))) (.seq .no (.seq (.seq .no (.block (.loop s_SortOf_s3 .no))) .no))))))
def s_SortOf_m (N : Nat) (docs : List (Int × (List ((List UInt8) × (List UInt8))) × (List ((List UInt8) × Int)))) (keys : List ((List UInt8) × Bool)) : Option ((List Int)) :=
  (Option.bind (s_l6Docs_m N docs) fun (r : Bool) =>
    (bif (!r) then
      (some ([] : List Int))
      else
      (Option.bind (s_l22Keys_m N keys) fun (r2 : Bool) =>
        (bif (!r2) then
          (some ([] : List Int))
          else
          (iter (fun (go : ((List (Int × (List ((List UInt8) × (List UInt8))) × (List ((List UInt8) × Int)))) × (List ((List UInt8) × Bool)) × (List (Int × (List ((List UInt8) × (List UInt8))) × (List ((List UInt8) × Int)))) × Int) → Option ((List Int))) (g : (List (Int × (List ((List UInt8) × (List UInt8))) × (List ((List UInt8) × Int)))) × (List ((List UInt8) × Bool)) × (List (Int × (List ((List UInt8) × (List UInt8))) × (List ((List UInt8) × Int)))) × Int) => 
              match g with
              | (docs2, keys2, list, i) =>
              (bif (decide (i < (docs2.length : Int))) then
                (iter (fun (go2 : ((List (Int × (List ((List UInt8) × (List UInt8))) × (List ((List UInt8) × Int)))) × (List ((List UInt8) × Bool)) × (List (Int × (List ((List UInt8) × (List UInt8))) × (List ((List UInt8) × Int)))) × Int × Int) → Option ((List Int))) (g : (List (Int × (List ((List UInt8) × (List UInt8))) × (List ((List UInt8) × Int)))) × (List ((List UInt8) × Bool)) × (List (Int × (List ((List UInt8) × (List UInt8))) × (List ((List UInt8) × Int)))) × Int × Int) => 
                    match g with
                    | (docs3, keys3, list2, i2, k) =>
                    (bif (decide (k < (list2.length : Int))) then
                      (Option.bind (idx list2 k) fun (e : Int × (List ((List UInt8) × (List UInt8))) × (List ((List UInt8) × Int))) =>
                        (Option.bind (idx docs3 i2) fun (e2 : Int × (List ((List UInt8) × (List UInt8))) × (List ((List UInt8) × Int))) =>
                          (Option.bind (s_l22Less_m N e.1 e.2.1 e.2.2 e2.1 e2.2.1 e2.2.2 keys3) fun (r3 : Bool) =>
                            (bif r3 then
                              (if fits (k + 1) then (go2 (docs3, keys3, list2, i2, (k + 1))) else none)
                              else
                              (Option.bind (cut list2 0 k) fun (y : List (Int × (List ((List UInt8) × (List UInt8))) × (List ((List UInt8) × Int)))) =>
                                (if room ([] : List (Int × (List ((List UInt8) × (List UInt8))) × (List ((List UInt8) × Int)))).length y.length 56 then
                                  (Option.bind (idx docs3 i2) fun (e3 : Int × (List ((List UInt8) × (List UInt8))) × (List ((List UInt8) × Int))) =>
                                    (if room (([] : List (Int × (List ((List UInt8) × (List UInt8))) × (List ((List UInt8) × Int)))) ++ y).length ([e3] : List (Int × (List ((List UInt8) × (List UInt8))) × (List ((List UInt8) × Int)))).length 56 then
                                      (Option.bind (cut list2 k (list2.length : Int)) fun (y2 : List (Int × (List ((List UInt8) × (List UInt8))) × (List ((List UInt8) × Int)))) =>
                                        (if room ((([] : List (Int × (List ((List UInt8) × (List UInt8))) × (List ((List UInt8) × Int)))) ++ y) ++ ([e3] : List (Int × (List ((List UInt8) × (List UInt8))) × (List ((List UInt8) × Int))))).length y2.length 56 then
                                          (if fits (i2 + 1) then (go (docs3, keys3, (((([] : List (Int × (List ((List UInt8) × (List UInt8))) × (List ((List UInt8) × Int)))) ++ y) ++ ([e3] : List (Int × (List ((List UInt8) × (List UInt8))) × (List ((List UInt8) × Int))))) ++ y2), (i2 + 1))) else none)
                                          else none))
                                      else none))
                                  else none))))))
                      else
                      (Option.bind (cut list2 0 k) fun (y3 : List (Int × (List ((List UInt8) × (List UInt8))) × (List ((List UInt8) × Int)))) =>
                        (if room ([] : List (Int × (List ((List UInt8) × (List UInt8))) × (List ((List UInt8) × Int)))).length y3.length 56 then
                          (Option.bind (idx docs3 i2) fun (e4 : Int × (List ((List UInt8) × (List UInt8))) × (List ((List UInt8) × Int))) =>
                            (if room (([] : List (Int × (List ((List UInt8) × (List UInt8))) × (List ((List UInt8) × Int)))) ++ y3).length ([e4] : List (Int × (List ((List UInt8) × (List UInt8))) × (List ((List UInt8) × Int)))).length 56 then
                              (Option.bind (cut list2 k (list2.length : Int)) fun (y4 : List (Int × (List ((List UInt8) × (List UInt8))) × (List ((List UInt8) × Int)))) =>
                                (if room ((([] : List (Int × (List ((List UInt8) × (List UInt8))) × (List ((List UInt8) × Int)))) ++ y3) ++ ([e4] : List (Int × (List ((List UInt8) × (List UInt8))) × (List ((List UInt8) × Int))))).length y4.length 56 then
                                  (if fits (i2 + 1) then (go (docs3, keys3, (((([] : List (Int × (List ((List UInt8) × (List UInt8))) × (List ((List UInt8) × Int)))) ++ y3) ++ ([e4] : List (Int × (List ((List UInt8) × (List UInt8))) × (List ((List UInt8) × Int))))) ++ y4), (i2 + 1))) else none)
                                  else none))
                              else none))
                          else none)))) N (docs2, keys2, list, i, 0))
                else
                (iter (fun (go3 : ((List (Int × (List ((List UInt8) × (List UInt8))) × (List ((List UInt8) × Int)))) × (List Int) × Int) → Option ((List Int))) (g : (List (Int × (List ((List UInt8) × (List UInt8))) × (List ((List UInt8) × Int)))) × (List Int) × Int) => 
                    match g with
                    | (list3, out, i3) =>
                    (bif (decide (i3 < (list3.length : Int))) then
                      (Option.bind (idx list3 i3) fun (e5 : Int × (List ((List UInt8) × (List UInt8))) × (List ((List UInt8) × Int))) =>
                        (if room out.length ([e5.1] : List Int).length 8 then
                          (if fits (i3 + 1) then (go3 (list3, (out ++ ([e5.1] : List Int)), (i3 + 1))) else none)
                          else none))
                      else
                      (some out))) N (list, ([] : List Int), 0)))) N (docs, keys, ([] : List (Int × (List ((List UInt8) × (List UInt8))) × (List ((List UInt8) × Int)))), 0))))))
def s_SortOf_M (N : Nat) : Model := ⟨s_SortOf_arg, s_SortOf_ret, fun a => s_SortOf_m N a.1 a.2⟩
set_option maxRecDepth 1000000 in
theorem s_SortOf_ok (N : Nat) : ModelOk Try.prog 23 (s_SortOf_M N) :=
  modelOk_of (E := mkEnv [(62, s_l6Docs_M N), (42, s_l22Keys_M N), (43, s_l22Less_M N)] [] []) (mkEnv_ok (fnsOk_cons (s_l6Docs_ok N) (fnsOk_cons (s_l22Keys_ok N) (fnsOk_cons (s_l22Less_ok N) fnsOk_nil))) _ _) Try.func23 (by kernel_rfl) rfl N s_SortOf_h (s_SortOf_M N) (by kernel_rfl) (by kernel_rfl) (fun a => by kernel_rfl)
/-! loop.example/fossick/laws.foInts -/
def l_foInts_arg : Sh := ⟨[.pv (.sl (.int .i64)), .pv (.sl (.int .i64))], []⟩
def l_foInts_ret : Sh := ⟨[.pv .bool], []⟩
def l_foInts_s1 : Sh := ⟨[.pv (.sl (.int .i64)), .pv (.sl (.int .i64)), .dead, .dead, .dead, .pv (.int .i64), .dead, .dead, .dead, .dead, .dead, .dead, .dead, .dead, .dead, .dead, .dead, .dead, .dead, .dead, .dead, .dead, .dead, .dead, .dead, .dead], []⟩
def l_foInts_h : Hint := (.seq .no (.seq .no (.seq (.seq .no (.block (.loop l_foInts_s1 .no))) .no)))
def l_foInts_m (N : Nat) (a : List Int) (b : List Int) : Option (Bool) :=
  (bif (!decide ((a.length : Int) = (b.length : Int))) then
    (some false)
    else
    (iter (fun (go : ((List Int) × (List Int) × Int) → Option Bool) (g : (List Int) × (List Int) × Int) => 
        match g with
        | (a2, b2, i) =>
        (bif (decide (i < (a2.length : Int))) then
          (Option.bind (idx a2 i) fun (e : Int) =>
            (Option.bind (idx b2 i) fun (e2 : Int) =>
              (bif (!decide (e = e2)) then
                (some false)
                else
                (if fits (i + 1) then (go (a2, b2, (i + 1))) else none))))
          else
          (some true))) N (a, b, 0)))
def l_foInts_M (N : Nat) : Model := ⟨l_foInts_arg, l_foInts_ret, fun a => l_foInts_m N a.1 a.2⟩
set_option maxRecDepth 1000000 in
theorem l_foInts_ok (N : Nat) : ModelOk Try.prog 22 (l_foInts_M N) :=
  modelOk_of (E := mkEnv [] [] []) (mkEnv_ok fnsOk_nil _ _) Try.func22 (by kernel_rfl) rfl N l_foInts_h (l_foInts_M N) (by kernel_rfl) (by kernel_rfl) (fun a => by kernel_rfl)
/-! loop.example/fossick/laws.FnSortNone -/
def l_FnSortNone_arg : Sh := ⟨[.pv (.sl (.int .u8))], []⟩
def l_FnSortNone_ret : Sh := ⟨[.pv .bool], []⟩
def l_FnSortNone_s1 : Sh := ⟨[.dead, .dead, .dead, .own 600003 (.pair (.int .i64) (.pair (.sl (.pair .str .str)) (.sl (.pair .str (.int .i64))))) 33 true, .dead, .dead, .own 600006 (.int .i64) 3 true, .pv (.int .i64), .dead, .dead, .dead, .dead, .dead, .dead, .dead, .dead, .dead, .dead, .dead, .dead, .dead, .dead, .dead, .dead, .dead, .dead, .dead, .dead, .dead, .dead, .dead, .dead, .dead, .dead, .dead, .dead, .dead, .dead, .dead, .dead, .dead, .dead, .dead, .dead, .dead, .dead, .dead, .dead, .dead, .dead, .dead, .dead, .dead, .dead, .dead, .dead, .dead, .dead, .dead, .dead, .dead, .dead], []⟩
def l_FnSortNone_h : Hint := (.seq .no (.seq .no (.seq .no (.seq .no (.seq .no (.seq .no (.seq (.seq .no (.block (.loop l_FnSortNone_s1 .no))) .no)))))))
def l_FnSortNone_m (N : Nat) (code : List Int) : Option (Bool) :=
  (bif (decide ((1048576 : Int) < (code.length : Int))) then
    (some true)
    else
    (Option.bind (s_DrawSortOf_m N code) fun (r : (List (Int × (List ((List UInt8) × (List UInt8))) × (List ((List UInt8) × Int)))) × (List ((List UInt8) × Bool))) =>
      (Option.bind (i_SortOf_m N r.1 r.2) fun (r2 : (List Int)) =>
        (Option.bind (s_SortOf_m N r.1 r.2) fun (r3 : (List Int)) =>
          (Option.bind (l_foInts_m N r2 r3) fun (r4 : Bool) =>
            (bif (!r4) then
              (Option.bind (s_SortOf_m N r.1 r.2) fun (r5 : (List Int)) =>
                (Option.bind (l_foInts_m N r2 r5) fun (r6 : Bool) =>
                  (some r6)))
              else
              (Option.bind (i_DocsOk_m N r.1) fun (r7 : Bool) =>
                (bif (!r7) then
                  (Option.bind (s_SortOf_m N r.1 r.2) fun (r8 : (List Int)) =>
                    (Option.bind (l_foInts_m N r2 r8) fun (r9 : Bool) =>
                      (some r9)))
                  else
                  (iter (fun (go : ((List (Int × (List ((List UInt8) × (List UInt8))) × (List ((List UInt8) × Int)))) × (List Int) × Int) → Option Bool) (g : (List (Int × (List ((List UInt8) × (List UInt8))) × (List ((List UInt8) × Int)))) × (List Int) × Int) => 
                      match g with
                      | (docs, ids, i) =>
                      (bif (decide (i < (docs.length : Int))) then
                        (Option.bind (idx docs i) fun (e : Int × (List ((List UInt8) × (List UInt8))) × (List ((List UInt8) × Int))) =>
                          (if room ids.length ([e.1] : List Int).length 8 then
                            (if fits (i + 1) then (go (docs, (ids ++ ([e.1] : List Int)), (i + 1))) else none)
                            else none))
                        else
                        (Option.bind (i_SortOf_m N docs ([] : List ((List UInt8) × Bool))) fun (r10 : (List Int)) =>
                          (Option.bind (l_foInts_m N r10 ids) fun (r11 : Bool) =>
                            (bif r11 then
                              (Option.bind (i_SortOf_m N docs ([(([110, 111, 98, 111, 100, 121] : List UInt8), true)] : List ((List UInt8) × Bool))) fun (r12 : (List Int)) =>
                                (Option.bind (l_foInts_m N r12 ids) fun (r13 : Bool) =>
                                  (some r13)))
                              else
                              (some false)))))) N (r.1, ([] : List Int), 0))))))))))
def l_FnSortNone_M (N : Nat) : Model := ⟨l_FnSortNone_arg, l_FnSortNone_ret, fun a => l_FnSortNone_m N a⟩
set_option maxRecDepth 1000000 in
theorem l_FnSortNone_ok (N : Nat) : ModelOk Try.prog 5 (l_FnSortNone_M N) :=
  modelOk_of (E := mkEnv [(21, s_DrawSortOf_M N), (20, i_SortOf_M N), (23, s_SortOf_M N), (22, l_foInts_M N), (24, i_DocsOk_M N)] [] []) (mkEnv_ok (fnsOk_cons (s_DrawSortOf_ok N) (fnsOk_cons (i_SortOf_ok N) (fnsOk_cons (s_SortOf_ok N) (fnsOk_cons (l_foInts_ok N) (fnsOk_cons (i_DocsOk_ok N) fnsOk_nil))))) _ _) Try.func5 (by kernel_rfl) rfl N l_FnSortNone_h (l_FnSortNone_M N) (by kernel_rfl) (by kernel_rfl) (fun a => by kernel_rfl)
/-! loop.example/fossick/laws.foIn -/
def l_foIn_arg : Sh := ⟨[.pv (.sl (.int .i64)), .pv (.int .i64)], []⟩
def l_foIn_ret : Sh := ⟨[.pv .bool], []⟩
def l_foIn_s1 : Sh := ⟨[.pv (.sl (.int .i64)), .pv (.int .i64), .dead, .dead, .dead, .pv (.int .i64), .dead, .dead, .dead, .dead, .dead, .dead, .dead, .dead, .dead, .dead, .dead, .dead], []⟩
def l_foIn_h : Hint := (.seq .no (.seq (.seq .no (.block (.loop l_foIn_s1 .no))) .no))
def l_foIn_m (N : Nat) (list : List Int) (n : Int) : Option (Bool) :=
  (iter (fun (go : ((List Int) × Int × Int) → Option Bool) (g : (List Int) × Int × Int) => 
      match g with
      | (list2, n2, i) =>
      (bif (decide (i < (list2.length : Int))) then
        (Option.bind (idx list2 i) fun (e : Int) =>
          (bif (decide (e = n2)) then
            (some true)
            else
            (if fits (i + 1) then (go (list2, n2, (i + 1))) else none)))
        else
        (some false))) N (list, n, 0))
def l_foIn_M (N : Nat) : Model := ⟨l_foIn_arg, l_foIn_ret, fun a => l_foIn_m N a.1 a.2⟩
set_option maxRecDepth 1000000 in
theorem l_foIn_ok (N : Nat) : ModelOk Try.prog 25 (l_foIn_M N) :=
  modelOk_of (E := mkEnv [] [] []) (mkEnv_ok fnsOk_nil _ _) Try.func25 (by kernel_rfl) rfl N l_foIn_h (l_foIn_M N) (by kernel_rfl) (by kernel_rfl) (fun a => by kernel_rfl)
/-! loop.example/fossick/laws.foFind -/
def l_foFind_arg : Sh := ⟨[.pv (.sl (.pair (.int .i64) (.pair (.sl (.pair .str .str)) (.sl (.pair .str (.int .i64)))))), .pv (.int .i64)], []⟩
def l_foFind_ret : Sh := ⟨[.agg [.pv (.int .i64), .pv (.sl (.pair .str .str)), .pv (.sl (.pair .str (.int .i64)))]], []⟩
def l_foFind_s1 : Sh := ⟨[.pv (.sl (.pair (.int .i64) (.pair (.sl (.pair .str .str)) (.sl (.pair .str (.int .i64)))))), .pv (.int .i64), .dead, .dead, .box 4 0, .pv (.int .i64), .dead, .dead, .dead, .dead, .dead, .dead, .dead, .dead, .dead, .dead, .dead, .dead, .dead, .dead, .dead, .dead, .dead, .dead], [(4, false, [.pv (.int .i64), .nils, .nils])]⟩
def l_foFind_h : Hint := (.seq .no (.seq (.seq .no (.block (.loop l_foFind_s1 .no))) .no))
def l_foFind_m (N : Nat) (docs : List (Int × (List ((List UInt8) × (List UInt8))) × (List ((List UInt8) × Int)))) (id : Int) : Option (Int × (List ((List UInt8) × (List UInt8))) × (List ((List UInt8) × Int))) :=
  (iter (fun (go : ((List (Int × (List ((List UInt8) × (List UInt8))) × (List ((List UInt8) × Int)))) × Int × Int × Int) → Option (Int × (List ((List UInt8) × (List UInt8))) × (List ((List UInt8) × Int)))) (g : (List (Int × (List ((List UInt8) × (List UInt8))) × (List ((List UInt8) × Int)))) × Int × Int × Int) => 
      match g with
      | (docs2, id2, i, b) =>
      (bif (decide (i < (docs2.length : Int))) then
        (Option.bind (idx docs2 i) fun (e : Int × (List ((List UInt8) × (List UInt8))) × (List ((List UInt8) × Int))) =>
          (bif (decide (e.1 = id2)) then
            (Option.bind (idx docs2 i) fun (e2 : Int × (List ((List UInt8) × (List UInt8))) × (List ((List UInt8) × Int))) =>
              (some (e2.1, e2.2.1, e2.2.2)))
            else
            (if fits (i + 1) then (go (docs2, id2, (i + 1), b)) else none)))
        else
        (some (0, ([] : List ((List UInt8) × (List UInt8))), ([] : List ((List UInt8) × Int)))))) N (docs, id, 0, 0))
def l_foFind_M (N : Nat) : Model := ⟨l_foFind_arg, l_foFind_ret, fun a => l_foFind_m N a.1 a.2⟩
set_option maxRecDepth 1000000 in
theorem l_foFind_ok (N : Nat) : ModelOk Try.prog 26 (l_foFind_M N) :=
  modelOk_of (E := mkEnv [] [] []) (mkEnv_ok fnsOk_nil _ _) Try.func26 (by kernel_rfl) rfl N l_foFind_h (l_foFind_M N) (by kernel_rfl) (by kernel_rfl) (fun a => by kernel_rfl)
/-! loop.example/fossick/laws.FnSortOf -/
def l_FnSortOf_arg : Sh := ⟨[.pv (.sl (.int .u8))], []⟩
def l_FnSortOf_ret : Sh := ⟨[.pv .bool], []⟩
def l_FnSortOf_s1 : Sh := ⟨[.dead, .dead, .dead, .own 600003 (.pair (.int .i64) (.pair (.sl (.pair .str .str)) (.sl (.pair .str (.int .i64))))) 33 true, .own 600004 (.pair .str .bool) 53 true, .own 600005 (.int .i64) 3 true, .pv (.int .i64), .dead, .dead, .dead, .dead, .dead, .dead, .dead, .dead, .dead, .dead, .dead, .dead, .dead, .dead, .dead, .dead, .dead, .dead, .dead, .dead, .dead, .dead, .dead, .dead, .dead, .dead, .dead, .dead, .dead, .dead, .dead, .dead, .dead, .dead, .dead, .dead, .dead, .dead, .dead, .dead, .dead, .dead, .dead, .dead, .dead, .dead, .dead, .dead, .dead, .dead, .dead, .dead, .dead, .dead, .dead, .dead, .dead, .dead, .dead, .dead, .dead, .dead, .dead, .dead, .dead, .dead, .dead, .dead, .dead], []⟩
def l_FnSortOf_s2 : Sh := ⟨[.dead, .dead, .dead, .own 600003 (.pair (.int .i64) (.pair (.sl (.pair .str .str)) (.sl (.pair .str (.int .i64))))) 33 true, .own 600004 (.pair .str .bool) 53 true, .own 600005 (.int .i64) 3 true, .dead, .pv (.int .i64), .dead, .dead, .dead, .dead, .dead, .dead, .dead, .dead, .dead, .dead, .dead, .dead, .dead, .dead, .dead, .dead, .dead, .dead, .dead, .dead, .dead, .dead, .dead, .dead, .dead, .dead, .dead, .dead, .dead, .dead, .dead, .dead, .dead, .dead, .dead, .dead, .dead, .dead, .dead, .dead, .dead, .dead, .dead, .dead, .dead, .dead, .dead, .dead, .dead, .dead, .dead, .dead, .dead, .dead, .dead, .dead, .dead, .dead, .dead, .dead, .dead, .dead, .dead, .dead, .dead, .dead, .dead, .dead], []⟩
def l_FnSortOf_h : Hint := (.seq .no (.seq .no (.seq .no (.seq .no (.seq .no (.seq (.seq .no (.block (.loop l_FnSortOf_s1 .no))) (.seq (.seq .no (.block (.loop l_FnSortOf_s2 .no))) .no)))))))
def l_FnSortOf_m (N : Nat) (code : List Int) : Option (Bool) :=
  (bif (decide ((1048576 : Int) < (code.length : Int))) then
    (some true)
    else
    (Option.bind (s_DrawSortOf_m N code) fun (r : (List (Int × (List ((List UInt8) × (List UInt8))) × (List ((List UInt8) × Int)))) × (List ((List UInt8) × Bool))) =>
      (Option.bind (i_SortOf_m N r.1 r.2) fun (r2 : (List Int)) =>
        (Option.bind (s_SortOf_m N r.1 r.2) fun (r3 : (List Int)) =>
          (Option.bind (l_foInts_m N r2 r3) fun (r4 : Bool) =>
            (bif (!r4) then
              (Option.bind (s_SortOf_m N r.1 r.2) fun (r5 : (List Int)) =>
                (Option.bind (l_foInts_m N r2 r5) fun (r6 : Bool) =>
                  (some r6)))
              else
              (bif (decide ((r2.length : Int) = 0)) then
                (Option.bind (s_SortOf_m N r.1 r.2) fun (r7 : (List Int)) =>
                  (Option.bind (l_foInts_m N r2 r7) fun (r8 : Bool) =>
                    (some r8)))
                else
                (iter (fun (go : ((List (Int × (List ((List UInt8) × (List UInt8))) × (List ((List UInt8) × Int)))) × (List ((List UInt8) × Bool)) × (List Int) × Int) → Option Bool) (g : (List (Int × (List ((List UInt8) × (List UInt8))) × (List ((List UInt8) × Int)))) × (List ((List UInt8) × Bool)) × (List Int) × Int) => 
                    match g with
                    | (docs, keys, list, i) =>
                    (bif (decide (i < (docs.length : Int))) then
                      (Option.bind (idx docs i) fun (e : Int × (List ((List UInt8) × (List UInt8))) × (List ((List UInt8) × Int))) =>
                        (Option.bind (l_foIn_m N list e.1) fun (r9 : Bool) =>
                          (bif (!r9) then
                            (some false)
                            else
                            (if fits (i + 1) then (go (docs, keys, list, (i + 1))) else none))))
                      else
                      (iter (fun (go2 : ((List (Int × (List ((List UInt8) × (List UInt8))) × (List ((List UInt8) × Int)))) × (List ((List UInt8) × Bool)) × (List Int) × Int) → Option Bool) (g : (List (Int × (List ((List UInt8) × (List UInt8))) × (List ((List UInt8) × Int)))) × (List ((List UInt8) × Bool)) × (List Int) × Int) => 
                          match g with
                          | (docs2, keys2, list2, i2) =>
                          (bif (decide (i2 < (list2.length : Int))) then
                            (if fits (i2 - 1) then (Option.bind (idx list2 (i2 - 1)) fun (e2 : Int) =>
                                (Option.bind (l_foFind_m N docs2 e2) fun (r10 : Int × (List ((List UInt8) × (List UInt8))) × (List ((List UInt8) × Int))) =>
                                  (Option.bind (idx list2 i2) fun (e3 : Int) =>
                                    (Option.bind (l_foFind_m N docs2 e3) fun (r11 : Int × (List ((List UInt8) × (List UInt8))) × (List ((List UInt8) × Int))) =>
                                      (Option.bind (i_SortLess_m N r10.1 r10.2.1 r10.2.2 r11.1 r11.2.1 r11.2.2 keys2) fun (r12 : Bool) =>
                                        (bif (!r12) then
                                          (some false)
                                          else
                                          (if fits (i2 + 1) then (go2 (docs2, keys2, list2, (i2 + 1))) else none))))))) else none)
                            else
                            (some (decide ((list2.length : Int) = (docs2.length : Int)))))) N (docs, keys, list, 1)))) N (r.1, r.2, r2, 0)))))))))
def l_FnSortOf_M (N : Nat) : Model := ⟨l_FnSortOf_arg, l_FnSortOf_ret, fun a => l_FnSortOf_m N a⟩
set_option maxRecDepth 1000000 in
theorem l_FnSortOf_ok (N : Nat) : ModelOk Try.prog 6 (l_FnSortOf_M N) :=
  modelOk_of (E := mkEnv [(21, s_DrawSortOf_M N), (20, i_SortOf_M N), (23, s_SortOf_M N), (22, l_foInts_M N), (25, l_foIn_M N), (26, l_foFind_M N), (15, i_SortLess_M N)] [] []) (mkEnv_ok (fnsOk_cons (s_DrawSortOf_ok N) (fnsOk_cons (i_SortOf_ok N) (fnsOk_cons (s_SortOf_ok N) (fnsOk_cons (l_foInts_ok N) (fnsOk_cons (l_foIn_ok N) (fnsOk_cons (l_foFind_ok N) (fnsOk_cons (i_SortLess_ok N) fnsOk_nil))))))) _ _) Try.func6 (by kernel_rfl) rfl N l_FnSortOf_h (l_FnSortOf_M N) (by kernel_rfl) (by kernel_rfl) (fun a => by kernel_rfl)
/-! loop.example/fossick/spec.DrawSortPage -/
def s_DrawSortPage_arg : Sh := ⟨[.pv (.sl (.int .u8))], []⟩
def s_DrawSortPage_ret : Sh := ⟨[.tup [.own 1 (.pair (.int .i64) (.pair (.sl (.pair .str .str)) (.sl (.pair .str (.int .i64))))) 33 true, .own 2 (.pair .str .bool) 53 true, .pv (.int .i64), .pv (.int .i64)]], []⟩
def s_DrawSortPage_h : Hint := .no
def s_DrawSortPage_m (N : Nat) (code : List Int) : Option ((List (Int × (List ((List UInt8) × (List UInt8))) × (List ((List UInt8) × Int)))) × (List ((List UInt8) × Bool)) × Int × Int) :=
  (Option.bind (s_l30Open_m N code) fun (r : (List Int) × Int) =>
    (Option.bind (s_l30AnyDocs_m N r.1 r.2) fun (r2 : (List (Int × (List ((List UInt8) × (List UInt8))) × (List ((List UInt8) × Int)))) × (List Int) × Int) =>
      (Option.bind (s_l30Keys_m N r2.2.1 r2.2.2) fun (r3 : (List ((List UInt8) × Bool)) × (List Int) × Int) =>
        (Option.bind (s_l30Rd_pick_m N 10 r3.2.1 r3.2.2) fun (r4 : Int × (List Int) × Int) =>
          (Option.bind (s_l30Rd_pick_m N 5 r4.2.1 r4.2.2) fun (r5 : Int × (List Int) × Int) =>
            (some (r2.1, r3.1, r4.1, r5.1)))))))
def s_DrawSortPage_M (N : Nat) : Model := ⟨s_DrawSortPage_arg, s_DrawSortPage_ret, fun a => s_DrawSortPage_m N a⟩
set_option maxRecDepth 1000000 in
theorem s_DrawSortPage_ok (N : Nat) : ModelOk Try.prog 27 (s_DrawSortPage_M N) :=
  modelOk_of (E := mkEnv [(52, s_l30Open_M N), (61, s_l30AnyDocs_M N), (54, s_l30Keys_M N), (63, s_l30Rd_pick_M N)] [] []) (mkEnv_ok (fnsOk_cons (s_l30Open_ok N) (fnsOk_cons (s_l30AnyDocs_ok N) (fnsOk_cons (s_l30Keys_ok N) (fnsOk_cons (s_l30Rd_pick_ok N) fnsOk_nil)))) _ _) Try.func27 (by kernel_rfl) rfl N s_DrawSortPage_h (s_DrawSortPage_M N) (by kernel_rfl) (by kernel_rfl) (fun a => by kernel_rfl)
/-! slices.Index[[]int,int] -/
def k_slices_Index_484_arg : Sh := ⟨[.pv (.sl (.int .i64)), .pv (.int .i64)], []⟩
def k_slices_Index_484_ret : Sh := ⟨[.pv (.int .i64)], []⟩
def k_slices_Index_484_s1 : Sh := ⟨[.pv (.sl (.int .i64)), .pv (.int .i64), .dead, .dead, .dead, .dead, .dead, .pv (.int .i64), .pv (.int .i64), .dead, .dead, .dead, .dead, .dead, .dead, .dead, .dead, .dead, .dead], []⟩
def k_slices_Index_484_h : Hint := (.seq .no (.seq (.seq .no (.block (.loop k_slices_Index_484_s1 .no))) .no))
def k_slices_Index_484_m (N : Nat) (s : List Int) (v : Int) : Option (Int) :=
  (iter (fun (go : ((List Int) × Int × Int × Int) → Option Int) (g : (List Int) × Int × Int × Int) => 
      match g with
      | (s2, v2, t7, t8) =>
      (bif (decide (t8 < t7)) then
        (Option.bind (idx s2 t8) fun (e : Int) =>
          (bif (decide (v2 = e)) then
            (some t8)
            else
            (if fits (t8 + 1) then (go (s2, v2, t7, (t8 + 1))) else none)))
        else
        (some (-1)))) N (s, v, (s.length : Int), 0))
def k_slices_Index_484_M (N : Nat) : Model := ⟨k_slices_Index_484_arg, k_slices_Index_484_ret, fun a => k_slices_Index_484_m N a.1 a.2⟩
set_option maxRecDepth 1000000 in
theorem k_slices_Index_484_ok (N : Nat) : ModelOk Try.prog 64 (k_slices_Index_484_M N) :=
  modelOk_of (E := mkEnv [] [] []) (mkEnv_ok fnsOk_nil _ _) Try.func64 (by kernel_rfl) rfl N k_slices_Index_484_h (k_slices_Index_484_M N) (by kernel_rfl) (by kernel_rfl) (fun a => by kernel_rfl)
/-! loop.example/fossick/impl.SortPage -/
def i_SortPage_arg : Sh := ⟨[.pv (.sl (.pair (.int .i64) (.pair (.sl (.pair .str .str)) (.sl (.pair .str (.int .i64)))))), .pv (.sl (.pair .str .bool)), .pv (.int .i64), .pv (.int .i64)], []⟩
def i_SortPage_ret : Sh := ⟨[.own 1 (.int .i64) 3 true], []⟩
def i_SortPage_h : Hint := .no
def i_SortPage_m (N : Nat) (docs : List (Int × (List ((List UInt8) × (List UInt8))) × (List ((List UInt8) × Int)))) (keys : List ((List UInt8) × Bool)) (after : Int) (many : Int) : Option ((List Int)) :=
  (Option.bind (i_SortOf_m N docs keys) fun (r : (List Int)) =>
    (Option.bind (k_slices_Index_484_m N r after) fun (r2 : Int) =>
      (bif (decide (r2 < 0)) then
        (some ([] : List Int))
        else
        (bif (decide (many < 1)) then
          (some ([] : List Int))
          else
          (if fits (r2 + 1) then (Option.bind (cut r (r2 + 1) (r.length : Int)) fun (y : List Int) =>
              (Option.bind (cut y 0 (if (y.length : Int) < many then (y.length : Int) else many)) fun (y2 : List Int) =>
                (if room ([] : List Int).length y2.length 8 then
                  (some (([] : List Int) ++ y2))
                  else none))) else none)))))
def i_SortPage_M (N : Nat) : Model := ⟨i_SortPage_arg, i_SortPage_ret, fun a => i_SortPage_m N a.1 a.2.1 a.2.2.1 a.2.2.2⟩
set_option maxRecDepth 1000000 in
theorem i_SortPage_ok (N : Nat) : ModelOk Try.prog 28 (i_SortPage_M N) :=
  modelOk_of (E := mkEnv [(20, i_SortOf_M N), (64, k_slices_Index_484_M N)] [] []) (mkEnv_ok (fnsOk_cons (i_SortOf_ok N) (fnsOk_cons (k_slices_Index_484_ok N) fnsOk_nil)) _ _) Try.func28 (by kernel_rfl) rfl N i_SortPage_h (i_SortPage_M N) (by kernel_rfl) (by kernel_rfl) (fun a => by kernel_rfl)
/-! loop.example/fossick/spec.SortPage -/
def s_SortPage_arg : Sh := ⟨[.pv (.sl (.pair (.int .i64) (.pair (.sl (.pair .str .str)) (.sl (.pair .str (.int .i64)))))), .pv (.sl (.pair .str .bool)), .pv (.int .i64), .pv (.int .i64)], []⟩
def s_SortPage_ret : Sh := ⟨[.own 1 (.int .i64) 3 true], []⟩
def s_SortPage_s1 : Sh := ⟨[.dead, .dead, .pv (.int .i64), .pv (.int .i64), .dead, .dead, .dead, .dead, .dead, .own 600009 (.int .i64) 3 true, .own 600010 (.int .i64) 3 true, .pv .bool, .pv (.int .i64), .dead, .dead, .dead, .dead, .dead, .dead, .dead, .dead, .dead, .dead, .dead, .dead, .dead, .dead, .dead, .dead, .dead, .dead, .dead, .dead, .dead, .dead, .dead, .dead, .dead, .dead, .dead, .dead, .dead, .dead, .dead, .dead, .dead, .dead], []⟩
def s_SortPage_s2 : Sh := ⟨[.dead, .dead, .pv (.int .i64), .pv (.int .i64), .dead, .dead, .dead, .dead, .dead, .own 36 (.int .i64) 3 true, .own 600010 (.int .i64) 3 true, .pv .bool, .pv (.int .i64), .dead, .dead, .dead, .dead, .dead, .dead, .dead, .dead, .dead, .dead, .dead, .dead, .pv .bool, .dead, .dead, .dead, .dead, .dead, .dead, .dead, .dead, .dead, .dead, .dead, .dead, .dead, .dead, .dead, .dead, .dead, .dead, .dead, .dead, .dead], []⟩
def s_SortPage_h : Hint := (.seq .no (.seq .no (.seq .no (.seq .no (.seq (.seq .no (.block (.loop s_SortPage_s1 (.seq .no (.seq (.block (.meet s_SortPage_s2 .no .no)) .no))))) .no)))))
def s_SortPage_m (N : Nat) (docs : List (Int × (List ((List UInt8) × (List UInt8))) × (List ((List UInt8) × Int)))) (keys : List ((List UInt8) × Bool)) (after : Int) (many : Int) : Option ((List Int)) :=
  (Option.bind (s_SortOf_m N docs keys) fun (r : (List Int)) =>
    (iter (fun (go : (Int × Int × (List Int) × (List Int) × Bool × Int) → Option ((List Int))) (g : Int × Int × (List Int) × (List Int) × Bool × Int) => 
        match g with
        | (after2, many2, out, list, on, i) =>
        (bif (decide (i < (list.length : Int))) then
          (bif (decide ((out.length : Int) < many2)) then
            (meet (fun (g : Int × Int × (List Int) × (List Int) × Bool × Int × Bool) => 
                match g with
                | (after3, many3, out2, list2, on2, i2, t25) =>
                (bif on2 then
                  (if fits (i2 + 1) then (go (after3, many3, out2, list2, true, (i2 + 1))) else none)
                  else
                  (Option.bind (idx list2 i2) fun (e2 : Int) =>
                    (if fits (i2 + 1) then (go (after3, many3, out2, list2, (decide (e2 = after3)), (i2 + 1))) else none)))) fun (J : (Int × Int × (List Int) × (List Int) × Bool × Int × Bool) → Option ((List Int))) =>
              (bif on then
                (Option.bind (idx list i) fun (e : Int) =>
                  (if room out.length ([e] : List Int).length 8 then
                    (J (after2, many2, (out ++ ([e] : List Int)), list, on, i, (decide ((out.length : Int) < many2))))
                    else none))
                else
                (J (after2, many2, out, list, on, i, (decide ((out.length : Int) < many2))))))
            else
            (some out))
          else
          (some out))) N (after, many, ([] : List Int), r, false, 0)))
def s_SortPage_M (N : Nat) : Model := ⟨s_SortPage_arg, s_SortPage_ret, fun a => s_SortPage_m N a.1 a.2.1 a.2.2.1 a.2.2.2⟩
set_option maxRecDepth 1000000 in
theorem s_SortPage_ok (N : Nat) : ModelOk Try.prog 29 (s_SortPage_M N) :=
  modelOk_of (E := mkEnv [(23, s_SortOf_M N)] [] []) (mkEnv_ok (fnsOk_cons (s_SortOf_ok N) fnsOk_nil) _ _) Try.func29 (by kernel_rfl) rfl N s_SortPage_h (s_SortPage_M N) (by kernel_rfl) (by kernel_rfl) (fun a => by kernel_rfl)
/-! loop.example/fossick/laws.FnSortPage -/
def l_FnSortPage_arg : Sh := ⟨[.pv (.sl (.int .u8))], []⟩
def l_FnSortPage_ret : Sh := ⟨[.pv .bool], []⟩
def l_FnSortPage_s1 : Sh := ⟨[.dead, .dead, .dead, .dead, .dead, .pv (.int .i64), .pv (.int .i64), .own 600007 (.int .i64) 3 true, .own 600008 (.int .i64) 3 true, .pv (.int .i64), .pv (.int .i64), .dead, .dead, .dead, .dead, .dead, .dead, .dead, .dead, .dead, .dead, .dead, .dead, .dead, .dead, .dead, .dead, .dead, .dead, .dead, .dead, .dead, .dead, .dead, .dead, .dead, .dead, .dead, .dead, .dead, .dead, .dead, .dead, .dead, .dead, .dead, .dead, .dead, .dead, .dead, .dead, .dead, .dead, .dead, .dead, .dead, .dead, .dead, .dead, .dead, .dead, .dead, .dead, .dead, .dead, .dead, .dead, .dead, .dead, .dead, .dead, .dead, .dead, .dead, .dead, .dead, .dead, .dead, .dead, .dead, .dead, .dead, .dead, .dead], []⟩
def l_FnSortPage_s2 : Sh := ⟨[.dead, .dead, .dead, .dead, .dead, .dead, .dead, .own 600007 (.int .i64) 3 true, .own 600008 (.int .i64) 3 true, .pv (.int .i64), .dead, .pv (.int .i64), .dead, .dead, .dead, .dead, .dead, .dead, .dead, .dead, .dead, .dead, .dead, .dead, .dead, .dead, .dead, .dead, .dead, .dead, .dead, .dead, .dead, .dead, .dead, .dead, .dead, .dead, .dead, .dead, .dead, .dead, .dead, .dead, .dead, .dead, .dead, .dead, .dead, .dead, .dead, .dead, .dead, .dead, .dead, .dead, .dead, .dead, .dead, .dead, .dead, .dead, .dead, .dead, .dead, .dead, .dead, .dead, .dead, .dead, .dead, .dead, .dead, .dead, .dead, .dead, .dead, .dead, .dead, .dead, .dead, .dead, .dead, .dead], []⟩
def l_FnSortPage_h : Hint := (.seq .no (.seq .no (.seq .no (.seq .no (.seq .no (.seq .no (.seq .no (.seq (.seq .no (.block (.loop l_FnSortPage_s1 .no))) (.seq .no (.meet l_FnSortPage_s2 .no .no))))))))))
def l_FnSortPage_m (N : Nat) (code : List Int) : Option (Bool) :=
  (bif (decide ((1048576 : Int) < (code.length : Int))) then
    (some true)
    else
    (Option.bind (s_DrawSortPage_m N code) fun (r : (List (Int × (List ((List UInt8) × (List UInt8))) × (List ((List UInt8) × Int)))) × (List ((List UInt8) × Bool)) × Int × Int) =>
      (Option.bind (i_SortPage_m N r.1 r.2.1 r.2.2.1 r.2.2.2) fun (r2 : (List Int)) =>
        (Option.bind (s_SortPage_m N r.1 r.2.1 r.2.2.1 r.2.2.2) fun (r3 : (List Int)) =>
          (Option.bind (l_foInts_m N r2 r3) fun (r4 : Bool) =>
            (bif (!r4) then
              (Option.bind (s_SortPage_m N r.1 r.2.1 r.2.2.1 r.2.2.2) fun (r5 : (List Int)) =>
                (Option.bind (l_foInts_m N r2 r5) fun (r6 : Bool) =>
                  (some r6)))
              else
              (bif (decide ((r2.length : Int) = 0)) then
                (Option.bind (s_SortPage_m N r.1 r.2.1 r.2.2.1 r.2.2.2) fun (r7 : (List Int)) =>
                  (Option.bind (l_foInts_m N r2 r7) fun (r8 : Bool) =>
                    (some r8)))
                else
                (Option.bind (i_SortOf_m N r.1 r.2.1) fun (r9 : (List Int)) =>
                  (iter (fun (go : (Int × Int × (List Int) × (List Int) × Int × Int) → Option Bool) (g : Int × Int × (List Int) × (List Int) × Int × Int) => 
                      match g with
                      | (after, many, list, all, at0, i) =>
                      (bif (decide (i < (all.length : Int))) then
                        (Option.bind (idx all i) fun (e : Int) =>
                          (bif (decide (e = after)) then
                            (if fits (i + 1) then (go (after, many, list, all, i, (i + 1))) else none)
                            else
                            (if fits (i + 1) then (go (after, many, list, all, at0, (i + 1))) else none)))
                        else
                        (if fits (at0 + 1) then (if fits ((at0 + 1) + many) then (meet (fun (g : (List Int) × (List Int) × Int × Int) => 
                                match g with
                                | (list2, all2, at02, end0) =>
                                (bif (decide ((0 : Int) ≤ at02)) then
                                  (if fits (at02 + 1) then (Option.bind (cut all2 (at02 + 1) end0) fun (y : List Int) =>
                                      (Option.bind (l_foInts_m N list2 y) fun (r10 : Bool) =>
                                        (some r10))) else none)
                                  else
                                  (some false))) fun (J : ((List Int) × (List Int) × Int × Int) → Option Bool) =>
                              (bif (decide ((all.length : Int) < ((at0 + 1) + many))) then
                                (J (list, all, at0, (all.length : Int)))
                                else
                                (J (list, all, at0, ((at0 + 1) + many))))) else none) else none))) N (r.2.2.1, r.2.2.2, r2, r9, (-1), 0))))))))))
def l_FnSortPage_M (N : Nat) : Model := ⟨l_FnSortPage_arg, l_FnSortPage_ret, fun a => l_FnSortPage_m N a⟩
set_option maxRecDepth 1000000 in
theorem l_FnSortPage_ok (N : Nat) : ModelOk Try.prog 7 (l_FnSortPage_M N) :=
  modelOk_of (E := mkEnv [(27, s_DrawSortPage_M N), (28, i_SortPage_M N), (29, s_SortPage_M N), (22, l_foInts_M N), (20, i_SortOf_M N)] [] []) (mkEnv_ok (fnsOk_cons (s_DrawSortPage_ok N) (fnsOk_cons (i_SortPage_ok N) (fnsOk_cons (s_SortPage_ok N) (fnsOk_cons (l_foInts_ok N) (fnsOk_cons (i_SortOf_ok N) fnsOk_nil))))) _ _) Try.func7 (by kernel_rfl) rfl N l_FnSortPage_h (l_FnSortPage_M N) (by kernel_rfl) (by kernel_rfl) (fun a => by kernel_rfl)
/-! loop.example/fossick/laws.szDocS -/
def l_szDocS_arg : Sh := ⟨[.pv (.sl (.pair (.int .i64) (.pair (.sl (.pair .str .str)) (.sl (.pair .str (.int .i64)))))), .pv (.int .i64)], []⟩
def l_szDocS_ret : Sh := ⟨[.pv (.int .i64)], []⟩
def l_szDocS_s1 : Sh := ⟨[.pv (.sl (.pair (.int .i64) (.pair (.sl (.pair .str .str)) (.sl (.pair .str (.int .i64)))))), .pv (.int .i64), .dead, .dead, .dead, .pv (.int .i64), .dead, .dead, .dead, .dead, .dead, .dead, .dead, .dead, .dead, .dead, .dead, .dead, .dead, .dead, .dead, .dead, .dead, .dead, .dead, .dead, .dead], []⟩
def l_szDocS_h : Hint := (.seq .no (.seq .no (.seq .no (.seq (.seq .no (.block (.loop l_szDocS_s1 .no))) .no))))
def l_szDocS_m (N : Nat) (a : List (Int × (List ((List UInt8) × (List UInt8))) × (List ((List UInt8) × Int)))) (left : Int) : Option (Int) :=
  (if fits (left - (a.length : Int)) then (bif (decide ((left - (a.length : Int)) < 0)) then
      (some (-1))
      else
      (iter (fun (go : ((List (Int × (List ((List UInt8) × (List UInt8))) × (List ((List UInt8) × Int)))) × Int × Int) → Option Int) (g : (List (Int × (List ((List UInt8) × (List UInt8))) × (List ((List UInt8) × Int)))) × Int × Int) => 
          match g with
          | (a2, left2, i) =>
          (bif (decide (i < (a2.length : Int))) then
            (Option.bind (idx a2 i) fun (e : Int × (List ((List UInt8) × (List UInt8))) × (List ((List UInt8) × Int))) =>
              (Option.bind (l_szDoc_m N e.1 e.2.1 e.2.2 left2) fun (r : Int) =>
                (bif (decide (r < 0)) then
                  (some (-1))
                  else
                  (if fits (i + 1) then (go (a2, r, (i + 1))) else none))))
            else
            (some left2))) N (a, (left - (a.length : Int)), 0))) else none)
def l_szDocS_M (N : Nat) : Model := ⟨l_szDocS_arg, l_szDocS_ret, fun a => l_szDocS_m N a.1 a.2⟩
set_option maxRecDepth 1000000 in
theorem l_szDocS_ok (N : Nat) : ModelOk Try.prog 30 (l_szDocS_M N) :=
  modelOk_of (E := mkEnv [(10, l_szDoc_M N)] [] []) (mkEnv_ok (fnsOk_cons (l_szDoc_ok N) fnsOk_nil) _ _) Try.func30 (by kernel_rfl) rfl N l_szDocS_h (l_szDocS_M N) (by kernel_rfl) (by kernel_rfl) (fun a => by kernel_rfl)
/-! loop.example/fossick/laws.toDocS -/
def l_toDocS_arg : Sh := ⟨[.pv (.sl (.pair (.int .i64) (.pair (.sl (.pair .str .str)) (.sl (.pair .str (.int .i64))))))], []⟩
def l_toDocS_ret : Sh := ⟨[.own 1 (.pair (.int .i64) (.pair (.sl (.pair .str .str)) (.sl (.pair .str (.int .i64))))) 33 true], []⟩
def l_toDocS_s1 : Sh := ⟨[.pv (.sl (.pair (.int .i64) (.pair (.sl (.pair .str .str)) (.sl (.pair .str (.int .i64)))))), .dead, .dead, .tre 600003 (.pair (.int .i64) (.pair (.sl (.pair .str .str)) (.sl (.pair .str (.int .i64))))) 33, .pv (.int .i64), .dead, .dead, .dead, .dead, .dead, .dead, .dead, .dead, .dead, .dead, .dead, .dead, .dead, .dead, .dead, .dead, .dead, .dead], []⟩
def l_toDocS_h : Hint := (.seq .no (.seq .no (.seq (.seq .no (.block (.loop l_toDocS_s1 .no))) .no)))
def l_toDocS_m (N : Nat) (a : List (Int × (List ((List UInt8) × (List UInt8))) × (List ((List UInt8) × Int)))) : Option ((List (Int × (List ((List UInt8) × (List UInt8))) × (List ((List UInt8) × Int))))) :=
  (if (a.length : Int) = (a.length : Int) ∧ 0 ≤ (a.length : Int) ∧ (a.length : Int) * 56 ≤ 140737488355328 ∧ (a.length : Int) ≤ 140737488355328 then
    (iter (fun (go : ((List (Int × (List ((List UInt8) × (List UInt8))) × (List ((List UInt8) × Int)))) × (List (Int × (List ((List UInt8) × (List UInt8))) × (List ((List UInt8) × Int)))) × Int) → Option ((List (Int × (List ((List UInt8) × (List UInt8))) × (List ((List UInt8) × Int)))))) (g : (List (Int × (List ((List UInt8) × (List UInt8))) × (List ((List UInt8) × Int)))) × (List (Int × (List ((List UInt8) × (List UInt8))) × (List ((List UInt8) × Int)))) × Int) => 
        match g with
        | (a2, out, i) =>
        (bif (decide (i < (a2.length : Int))) then
          (Option.bind (idx a2 i) fun (e : Int × (List ((List UInt8) × (List UInt8))) × (List ((List UInt8) × Int))) =>
            (Option.bind (l_toDoc_m N e.1 e.2.1 e.2.2) fun (r : Int × (List ((List UInt8) × (List UInt8))) × (List ((List UInt8) × Int))) =>
              (if 0 ≤ i ∧ i < (out.length : Int) then
                (Option.bind (out[i.toNat]?) fun (e2 : Int × (List ((List UInt8) × (List UInt8))) × (List ((List UInt8) × Int))) =>
                  (if fits (i + 1) then (go (a2, (out.set i.toNat r), (i + 1))) else none))
                else none)))
          else
          (some out))) N (a, (List.replicate (a.length : Int).toNat (0, ([] : List ((List UInt8) × (List UInt8))), ([] : List ((List UInt8) × Int)))), 0))
    else none)
def l_toDocS_M (N : Nat) : Model := ⟨l_toDocS_arg, l_toDocS_ret, fun a => l_toDocS_m N a⟩
set_option maxRecDepth 1000000 in
theorem l_toDocS_ok (N : Nat) : ModelOk Try.prog 31 (l_toDocS_M N) :=
  modelOk_of (E := mkEnv [(13, l_toDoc_M N)] [7] [] [20]) (mkEnv_ok (fnsOk_cons (l_toDoc_ok N) fnsOk_nil) _ _ _) Try.func31 (by kernel_rfl) rfl N l_toDocS_h (l_toDocS_M N) (by kernel_rfl) (by kernel_rfl) (fun a => by kernel_rfl)
/-! loop.example/fossick/laws.eqIntS -/
def l_eqIntS_arg : Sh := ⟨[.pv (.sl (.int .i64)), .pv (.sl (.int .i64))], []⟩
def l_eqIntS_ret : Sh := ⟨[.pv .bool], []⟩
def l_eqIntS_s1 : Sh := ⟨[.pv (.sl (.int .i64)), .pv (.sl (.int .i64)), .dead, .dead, .dead, .pv (.int .i64), .dead, .dead, .dead, .dead, .dead, .dead, .dead, .dead, .dead, .dead, .dead, .dead, .dead, .dead, .dead, .dead, .dead, .dead, .dead, .dead], []⟩
def l_eqIntS_h : Hint := (.seq .no (.seq .no (.seq (.seq .no (.block (.loop l_eqIntS_s1 .no))) .no)))
def l_eqIntS_m (N : Nat) (a : List Int) (b : List Int) : Option (Bool) :=
  (bif (!decide ((a.length : Int) = (b.length : Int))) then
    (some false)
    else
    (iter (fun (go : ((List Int) × (List Int) × Int) → Option Bool) (g : (List Int) × (List Int) × Int) => 
        match g with
        | (a2, b2, i) =>
        (bif (decide (i < (a2.length : Int))) then
          (Option.bind (idx a2 i) fun (e : Int) =>
            (Option.bind (idx b2 i) fun (e2 : Int) =>
              (bif (!decide (e = e2)) then
                (some false)
                else
                (if fits (i + 1) then (go (a2, b2, (i + 1))) else none))))
          else
          (some true))) N (a, b, 0)))
def l_eqIntS_M (N : Nat) : Model := ⟨l_eqIntS_arg, l_eqIntS_ret, fun a => l_eqIntS_m N a.1 a.2⟩
set_option maxRecDepth 1000000 in
theorem l_eqIntS_ok (N : Nat) : ModelOk Try.prog 32 (l_eqIntS_M N) :=
  modelOk_of (E := mkEnv [] [] []) (mkEnv_ok fnsOk_nil _ _) Try.func32 (by kernel_rfl) rfl N l_eqIntS_h (l_eqIntS_M N) (by kernel_rfl) (by kernel_rfl) (fun a => by kernel_rfl)
/-! loop.example/fossick/laws.eqDocS -/
def l_eqDocS_arg : Sh := ⟨[.pv (.sl (.pair (.int .i64) (.pair (.sl (.pair .str .str)) (.sl (.pair .str (.int .i64)))))), .pv (.sl (.pair (.int .i64) (.pair (.sl (.pair .str .str)) (.sl (.pair .str (.int .i64))))))], []⟩
def l_eqDocS_ret : Sh := ⟨[.pv .bool], []⟩
def l_eqDocS_s1 : Sh := ⟨[.pv (.sl (.pair (.int .i64) (.pair (.sl (.pair .str .str)) (.sl (.pair .str (.int .i64)))))), .pv (.sl (.pair (.int .i64) (.pair (.sl (.pair .str .str)) (.sl (.pair .str (.int .i64)))))), .dead, .dead, .dead, .pv (.int .i64), .dead, .dead, .dead, .dead, .dead, .dead, .dead, .dead, .dead, .dead, .dead, .dead, .dead, .dead, .dead, .dead, .dead, .dead, .dead, .dead, .dead], []⟩
def l_eqDocS_h : Hint := (.seq .no (.seq .no (.seq (.seq .no (.block (.loop l_eqDocS_s1 .no))) .no)))
def l_eqDocS_m (N : Nat) (a : List (Int × (List ((List UInt8) × (List UInt8))) × (List ((List UInt8) × Int)))) (b : List (Int × (List ((List UInt8) × (List UInt8))) × (List ((List UInt8) × Int)))) : Option (Bool) :=
  (bif (!decide ((a.length : Int) = (b.length : Int))) then
    (some false)
    else
    (iter (fun (go : ((List (Int × (List ((List UInt8) × (List UInt8))) × (List ((List UInt8) × Int)))) × (List (Int × (List ((List UInt8) × (List UInt8))) × (List ((List UInt8) × Int)))) × Int) → Option Bool) (g : (List (Int × (List ((List UInt8) × (List UInt8))) × (List ((List UInt8) × Int)))) × (List (Int × (List ((List UInt8) × (List UInt8))) × (List ((List UInt8) × Int)))) × Int) => 
        match g with
        | (a2, b2, i) =>
        (bif (decide (i < (a2.length : Int))) then
          (Option.bind (idx a2 i) fun (e : Int × (List ((List UInt8) × (List UInt8))) × (List ((List UInt8) × Int))) =>
            (Option.bind (idx b2 i) fun (e2 : Int × (List ((List UInt8) × (List UInt8))) × (List ((List UInt8) × Int))) =>
              (Option.bind (l_eqDoc_m N e.1 e.2.1 e.2.2 e2.1 e2.2.1 e2.2.2) fun (r : Bool) =>
                (bif (!r) then
                  (some false)
                  else
                  (if fits (i + 1) then (go (a2, b2, (i + 1))) else none)))))
          else
          (some true))) N (a, b, 0)))
def l_eqDocS_M (N : Nat) : Model := ⟨l_eqDocS_arg, l_eqDocS_ret, fun a => l_eqDocS_m N a.1 a.2⟩
set_option maxRecDepth 1000000 in
theorem l_eqDocS_ok (N : Nat) : ModelOk Try.prog 33 (l_eqDocS_M N) :=
  modelOk_of (E := mkEnv [(16, l_eqDoc_M N)] [] []) (mkEnv_ok (fnsOk_cons (l_eqDoc_ok N) fnsOk_nil) _ _) Try.func33 (by kernel_rfl) rfl N l_eqDocS_h (l_eqDocS_M N) (by kernel_rfl) (by kernel_rfl) (fun a => by kernel_rfl)
/-! loop.example/fossick/laws.markText -/
def l_markText_arg : Sh := ⟨[.pv (.int .i64)], []⟩
def l_markText_ret : Sh := ⟨[.pv .str], []⟩
def l_markText_s1 : Sh := ⟨[.pv (.int .i64), .dead, .dead, .pv .str, .dead, .dead, .dead, .dead, .dead, .dead, .dead, .dead, .dead, .dead, .dead, .dead, .dead, .dead, .dead, .dead], []⟩
def l_markText_h : Hint := (.seq .no (.seq .no (.seq .no (.seq (.block (.loop l_markText_s1 .no)) .no))))
def l_markText_m (N : Nat) (k : Int) : Option ((List UInt8)) :=
  (bif (decide (k ≤ 0)) then
    (some ([109, 48] : List UInt8))
    else
    (iter (fun (go : (Int × (List UInt8)) → Option ((List UInt8))) (g : Int × (List UInt8)) => 
        match g with
        | (k2, out) =>
        (bif (decide ((0 : Int) < k2)) then
          (if 10 ≠ 0 then
            (if fits (48 + (k2.tmod 10)) then (if (bytesOf ([(IntKind.u8.wrap (48 + (k2.tmod 10)))] : List Int)).length + out.length ≤ 9223372036854775807 then
                (if 10 ≠ 0 then
                  (if fits (k2.tdiv 10) then (go ((k2.tdiv 10), ((bytesOf ([(IntKind.u8.wrap (48 + (k2.tmod 10)))] : List Int)) ++ out))) else none)
                  else none)
                else none) else none)
            else none)
          else
          (if ([109] : List UInt8).length + out.length ≤ 9223372036854775807 then
            (some (([109] : List UInt8) ++ out))
            else none))) N (k, ([] : List UInt8))))
def l_markText_M (N : Nat) : Model := ⟨l_markText_arg, l_markText_ret, fun a => l_markText_m N a⟩
set_option maxRecDepth 1000000 in
theorem l_markText_ok (N : Nat) : ModelOk Try.prog 67 (l_markText_M N) :=
  modelOk_of (E := mkEnv [] [] []) (mkEnv_ok fnsOk_nil _ _) Try.func67 (by kernel_rfl) rfl N l_markText_h (l_markText_M N) (by kernel_rfl) (by kernel_rfl) (fun a => by kernel_rfl)
/-! loop.example/fossick/laws.markFieldS -/
def l_markFieldS_arg : Sh := ⟨[.mtk 800000 (.pair .str .str) 87 true, .pv (.int .i64)], []⟩
def l_markFieldS_ret : Sh := ⟨[.pv (.int .i64), .mtk 800000 (.pair .str .str) 87 true], []⟩
def l_markFieldS_s1 : Sh := ⟨[.mtk 800000 (.pair .str .str) 87 true, .pv (.int .i64), .dead, .dead, .dead, .pv (.int .i64), .dead, .dead, .dead, .dead, .dead, .dead, .dead, .dead, .dead, .dead, .dead, .dead, .dead, .dead, .dead, .dead, .dead, .dead, .dead, .dead, .dead, .dead, .dead], []⟩
def l_markFieldS_h : Hint := (.seq .no (.seq (.seq .no (.block (.loop l_markFieldS_s1 .no))) .no))
def l_markFieldS_m (N : Nat) (a : List ((List UInt8) × (List UInt8))) (k : Int) : Option (Int × (List ((List UInt8) × (List UInt8)))) :=
  (iter (fun (go : ((List ((List UInt8) × (List UInt8))) × Int × Int) → Option (Int × (List ((List UInt8) × (List UInt8))))) (g : (List ((List UInt8) × (List UInt8))) × Int × Int) => 
      match g with
      | (a2, k2, i) =>
      (bif (decide (i < (a2.length : Int))) then
        (Option.bind (l_markText_m N k2) fun (r : (List UInt8)) =>
          (if 0 ≤ i ∧ i < (a2.length : Int) then
            (Option.bind (a2[i.toNat]?) fun (e : (List UInt8) × (List UInt8)) =>
              (if fits (k2 + 1) then (Option.bind (l_markText_m N (k2 + 1)) fun (r2 : (List UInt8)) =>
                  (if 0 ≤ i ∧ i < ((a2.set i.toNat (r, e.2)).length : Int) then
                    (Option.bind ((a2.set i.toNat (r, e.2))[i.toNat]?) fun (e2 : (List UInt8) × (List UInt8)) =>
                      (if fits ((k2 + 1) + 1) then (if fits (i + 1) then (go (((a2.set i.toNat (r, e.2)).set i.toNat (e2.1, r2)), ((k2 + 1) + 1), (i + 1))) else none) else none))
                    else none)) else none))
            else none))
        else
        (some (k2, a2)))) N (a, k, 0))
def l_markFieldS_M (N : Nat) : Model := ⟨l_markFieldS_arg, l_markFieldS_ret, fun a => l_markFieldS_m N a.1 a.2⟩
set_option maxRecDepth 1000000 in
theorem l_markFieldS_ok (N : Nat) : ModelOk Try.prog 65 (l_markFieldS_M N) :=
  modelOk_of (E := mkEnv [(67, l_markText_M N)] [] [800000]) (mkEnv_ok (fnsOk_cons (l_markText_ok N) fnsOk_nil) _ _) Try.func65 (by kernel_rfl) rfl N l_markFieldS_h (l_markFieldS_M N) (by kernel_rfl) (by kernel_rfl) (fun a => by kernel_rfl)
/-! loop.example/fossick/laws.markAttrS -/
def l_markAttrS_arg : Sh := ⟨[.mtk 800000 (.pair .str (.int .i64)) 90 true, .pv (.int .i64)], []⟩
def l_markAttrS_ret : Sh := ⟨[.pv (.int .i64), .mtk 800000 (.pair .str (.int .i64)) 90 true], []⟩
def l_markAttrS_s1 : Sh := ⟨[.mtk 800000 (.pair .str (.int .i64)) 90 true, .pv (.int .i64), .dead, .dead, .dead, .pv (.int .i64), .dead, .dead, .dead, .dead, .dead, .dead, .dead, .dead, .dead, .dead, .dead, .dead, .dead, .dead, .dead, .dead, .dead, .dead, .dead, .dead, .dead, .dead], []⟩
def l_markAttrS_h : Hint := (.seq .no (.seq (.seq .no (.block (.loop l_markAttrS_s1 .no))) .no))
def l_markAttrS_m (N : Nat) (a : List ((List UInt8) × Int)) (k : Int) : Option (Int × (List ((List UInt8) × Int))) :=
  (iter (fun (go : ((List ((List UInt8) × Int)) × Int × Int) → Option (Int × (List ((List UInt8) × Int)))) (g : (List ((List UInt8) × Int)) × Int × Int) => 
      match g with
      | (a2, k2, i) =>
      (bif (decide (i < (a2.length : Int))) then
        (Option.bind (l_markText_m N k2) fun (r : (List UInt8)) =>
          (if 0 ≤ i ∧ i < (a2.length : Int) then
            (Option.bind (a2[i.toNat]?) fun (e : (List UInt8) × Int) =>
              (if fits (k2 + 1) then (if 0 ≤ i ∧ i < ((a2.set i.toNat (r, e.2)).length : Int) then
                  (Option.bind ((a2.set i.toNat (r, e.2))[i.toNat]?) fun (e2 : (List UInt8) × Int) =>
                    (if fits ((k2 + 1) + 1) then (if fits (i + 1) then (go (((a2.set i.toNat (r, e.2)).set i.toNat (e2.1, (k2 + 1))), ((k2 + 1) + 1), (i + 1))) else none) else none))
                  else none) else none))
            else none))
        else
        (some (k2, a2)))) N (a, k, 0))
def l_markAttrS_M (N : Nat) : Model := ⟨l_markAttrS_arg, l_markAttrS_ret, fun a => l_markAttrS_m N a.1 a.2⟩
set_option maxRecDepth 1000000 in
theorem l_markAttrS_ok (N : Nat) : ModelOk Try.prog 66 (l_markAttrS_M N) :=
  modelOk_of (E := mkEnv [(67, l_markText_M N)] [] [800000]) (mkEnv_ok (fnsOk_cons (l_markText_ok N) fnsOk_nil) _ _) Try.func66 (by kernel_rfl) rfl N l_markAttrS_h (l_markAttrS_M N) (by kernel_rfl) (by kernel_rfl) (fun a => by kernel_rfl)
/-! loop.example/fossick/laws.markDocS -/
def l_markDocS_arg : Sh := ⟨[.tre 800000 (.pair (.int .i64) (.pair (.sl (.pair .str .str)) (.sl (.pair .str (.int .i64))))) 33, .pv (.int .i64)], []⟩
def l_markDocS_ret : Sh := ⟨[.pv (.int .i64), .tre 800000 (.pair (.int .i64) (.pair (.sl (.pair .str .str)) (.sl (.pair .str (.int .i64))))) 33], []⟩
def l_markDocS_s1 : Sh := ⟨[.tre 800000 (.pair (.int .i64) (.pair (.sl (.pair .str .str)) (.sl (.pair .str (.int .i64))))) 33, .pv (.int .i64), .dead, .dead, .dead, .pv (.int .i64), .dead, .dead, .dead, .dead, .dead, .dead, .dead, .dead, .dead, .dead, .dead, .dead, .dead, .dead, .dead, .dead, .dead, .dead, .dead, .dead, .dead, .dead, .dead, .dead, .dead, .dead, .dead, .dead], []⟩
def l_markDocS_h : Hint := (.seq .no (.seq (.seq .no (.block (.loop l_markDocS_s1 .no))) .no))
def l_markDocS_m (N : Nat) (a : List (Int × (List ((List UInt8) × (List UInt8))) × (List ((List UInt8) × Int)))) (k : Int) : Option (Int × (List (Int × (List ((List UInt8) × (List UInt8))) × (List ((List UInt8) × Int))))) :=
  (iter (fun (go : ((List (Int × (List ((List UInt8) × (List UInt8))) × (List ((List UInt8) × Int)))) × Int × Int) → Option (Int × (List (Int × (List ((List UInt8) × (List UInt8))) × (List ((List UInt8) × Int)))))) (g : (List (Int × (List ((List UInt8) × (List UInt8))) × (List ((List UInt8) × Int)))) × Int × Int) => 
      match g with
      | (a2, k2, i) =>
      (bif (decide (i < (a2.length : Int))) then
        (if 0 ≤ i ∧ i < (a2.length : Int) then
          (Option.bind (a2[i.toNat]?) fun (e : Int × (List ((List UInt8) × (List UInt8))) × (List ((List UInt8) × Int))) =>
            (if fits (k2 + 1) then (if 0 ≤ i ∧ i < ((a2.set i.toNat (k2, e.2)).length : Int) then
                (Option.bind ((a2.set i.toNat (k2, e.2))[i.toNat]?) fun (e2 : Int × (List ((List UInt8) × (List UInt8))) × (List ((List UInt8) × Int))) =>
                  (Option.bind (l_markFieldS_m N e2.2.1 (k2 + 1)) fun (r : Int × (List ((List UInt8) × (List UInt8)))) =>
                    (if 0 ≤ i ∧ i < ((a2.set i.toNat (k2, e.2)).length : Int) then
                      (Option.bind ((a2.set i.toNat (k2, e.2))[i.toNat]?) fun (e3 : Int × (List ((List UInt8) × (List UInt8))) × (List ((List UInt8) × Int))) =>
                        (Option.bind (l_markAttrS_m N e3.2.2 r.1) fun (r2 : Int × (List ((List UInt8) × Int))) =>
                          (if fits (i + 1) then (go ((((a2.set i.toNat (k2, e.2)).modify i.toNat fun y3 => (y3.1, y3.2.1, r2.2)).modify i.toNat fun y4 => (y4.1, r.2, y4.2.2)), r2.1, (i + 1))) else none)))
                      else none)))
                else none) else none))
          else none)
        else
        (some (k2, a2)))) N (a, k, 0))
def l_markDocS_M (N : Nat) : Model := ⟨l_markDocS_arg, l_markDocS_ret, fun a => l_markDocS_m N a.1 a.2⟩
set_option maxRecDepth 1000000 in
theorem l_markDocS_ok (N : Nat) : ModelOk Try.prog 34 (l_markDocS_M N) :=
  modelOk_of (E := mkEnv [(65, l_markFieldS_M N), (66, l_markAttrS_M N)] [] [800000]) (mkEnv_ok (fnsOk_cons (l_markFieldS_ok N) (fnsOk_cons (l_markAttrS_ok N) fnsOk_nil)) _ _) Try.func34 (by kernel_rfl) rfl N l_markDocS_h (l_markDocS_M N) (by kernel_rfl) (by kernel_rfl) (fun a => by kernel_rfl)
/-! loop.example/fossick/laws.markKeyS -/
def l_markKeyS_arg : Sh := ⟨[.mtk 800000 (.pair .str .bool) 53 true, .pv (.int .i64)], []⟩
def l_markKeyS_ret : Sh := ⟨[.pv (.int .i64), .mtk 800000 (.pair .str .bool) 53 true], []⟩
def l_markKeyS_s1 : Sh := ⟨[.mtk 800000 (.pair .str .bool) 53 true, .pv (.int .i64), .dead, .dead, .dead, .pv (.int .i64), .dead, .dead, .dead, .dead, .dead, .dead, .dead, .dead, .dead, .dead, .dead, .dead, .dead, .dead, .dead, .dead, .dead, .dead, .dead, .dead, .dead, .dead, .dead, .dead], []⟩
def l_markKeyS_h : Hint := (.seq .no (.seq (.seq .no (.block (.loop l_markKeyS_s1 .no))) .no))
def l_markKeyS_m (N : Nat) (a : List ((List UInt8) × Bool)) (k : Int) : Option (Int × (List ((List UInt8) × Bool))) :=
  (iter (fun (go : ((List ((List UInt8) × Bool)) × Int × Int) → Option (Int × (List ((List UInt8) × Bool)))) (g : (List ((List UInt8) × Bool)) × Int × Int) => 
      match g with
      | (a2, k2, i) =>
      (bif (decide (i < (a2.length : Int))) then
        (Option.bind (l_markText_m N k2) fun (r : (List UInt8)) =>
          (if 0 ≤ i ∧ i < (a2.length : Int) then
            (Option.bind (a2[i.toNat]?) fun (e : (List UInt8) × Bool) =>
              (if fits (k2 + 1) then (if 3 ≠ 0 then
                  (if 0 ≤ i ∧ i < ((a2.set i.toNat (r, e.2)).length : Int) then
                    (Option.bind ((a2.set i.toNat (r, e.2))[i.toNat]?) fun (e2 : (List UInt8) × Bool) =>
                      (if fits ((k2 + 1) + 1) then (if fits (i + 1) then (go (((a2.set i.toNat (r, e.2)).set i.toNat (e2.1, (decide (((k2 + 1).tmod 3) = 0)))), ((k2 + 1) + 1), (i + 1))) else none) else none))
                    else none)
                  else none) else none))
            else none))
        else
        (some (k2, a2)))) N (a, k, 0))
def l_markKeyS_M (N : Nat) : Model := ⟨l_markKeyS_arg, l_markKeyS_ret, fun a => l_markKeyS_m N a.1 a.2⟩
set_option maxRecDepth 1000000 in
theorem l_markKeyS_ok (N : Nat) : ModelOk Try.prog 35 (l_markKeyS_M N) :=
  modelOk_of (E := mkEnv [(67, l_markText_M N)] [] [800000]) (mkEnv_ok (fnsOk_cons (l_markText_ok N) fnsOk_nil) _ _) Try.func35 (by kernel_rfl) rfl N l_markKeyS_h (l_markKeyS_M N) (by kernel_rfl) (by kernel_rfl) (fun a => by kernel_rfl)
/-! loop.example/fossick/laws.markIntS -/
def l_markIntS_arg : Sh := ⟨[.mtk 800000 (.int .i64) 3 true, .pv (.int .i64)], []⟩
def l_markIntS_ret : Sh := ⟨[.pv (.int .i64), .mtk 800000 (.int .i64) 3 true], []⟩
def l_markIntS_s1 : Sh := ⟨[.mtk 800000 (.int .i64) 3 true, .pv (.int .i64), .dead, .dead, .dead, .pv (.int .i64), .dead, .dead, .dead, .dead, .dead, .dead, .dead, .dead, .dead, .dead, .dead, .dead, .dead], []⟩
def l_markIntS_h : Hint := (.seq .no (.seq (.seq .no (.block (.loop l_markIntS_s1 .no))) .no))
def l_markIntS_m (N : Nat) (a : List Int) (k : Int) : Option (Int × (List Int)) :=
  (iter (fun (go : ((List Int) × Int × Int) → Option (Int × (List Int))) (g : (List Int) × Int × Int) => 
      match g with
      | (a2, k2, i) =>
      (bif (decide (i < (a2.length : Int))) then
        (if 0 ≤ i ∧ i < (a2.length : Int) then
          (Option.bind (a2[i.toNat]?) fun (e : Int) =>
            (if fits (k2 + 1) then (if fits (i + 1) then (go ((a2.set i.toNat k2), (k2 + 1), (i + 1))) else none) else none))
          else none)
        else
        (some (k2, a2)))) N (a, k, 0))
def l_markIntS_M (N : Nat) : Model := ⟨l_markIntS_arg, l_markIntS_ret, fun a => l_markIntS_m N a.1 a.2⟩
set_option maxRecDepth 1000000 in
theorem l_markIntS_ok (N : Nat) : ModelOk Try.prog 36 (l_markIntS_M N) :=
  modelOk_of (E := mkEnv [] [] [800000]) (mkEnv_ok fnsOk_nil _ _) Try.func36 (by kernel_rfl) rfl N l_markIntS_h (l_markIntS_M N) (by kernel_rfl) (by kernel_rfl) (fun a => by kernel_rfl)
/-! loop.example/fossick/laws.heldIntS -/
def l_heldIntS_arg : Sh := ⟨[.pv (.sl (.int .i64)), .pv (.int .i64)], []⟩
def l_heldIntS_ret : Sh := ⟨[.pv (.int .i64)], []⟩
def l_heldIntS_s1 : Sh := ⟨[.pv (.sl (.int .i64)), .pv (.int .i64), .dead, .dead, .dead, .pv (.int .i64), .dead, .dead, .dead, .dead, .dead, .dead, .dead, .dead, .dead, .dead, .dead, .dead, .dead, .dead, .dead], []⟩
def l_heldIntS_h : Hint := (.seq .no (.seq (.seq .no (.block (.loop l_heldIntS_s1 .no))) .no))
def l_heldIntS_m (N : Nat) (a : List Int) (k : Int) : Option (Int) :=
  (iter (fun (go : ((List Int) × Int × Int) → Option Int) (g : (List Int) × Int × Int) => 
      match g with
      | (a2, k2, i) =>
      (bif (decide (i < (a2.length : Int))) then
        (Option.bind (idx a2 i) fun (e : Int) =>
          (bif (!decide (e = k2)) then
            (some (-1))
            else
            (if fits (k2 + 1) then (if fits (i + 1) then (go (a2, (k2 + 1), (i + 1))) else none) else none)))
        else
        (some k2))) N (a, k, 0))
def l_heldIntS_M (N : Nat) : Model := ⟨l_heldIntS_arg, l_heldIntS_ret, fun a => l_heldIntS_m N a.1 a.2⟩
set_option maxRecDepth 1000000 in
theorem l_heldIntS_ok (N : Nat) : ModelOk Try.prog 37 (l_heldIntS_M N) :=
  modelOk_of (E := mkEnv [] [] []) (mkEnv_ok fnsOk_nil _ _) Try.func37 (by kernel_rfl) rfl N l_heldIntS_h (l_heldIntS_M N) (by kernel_rfl) (by kernel_rfl) (fun a => by kernel_rfl)
/-! loop.example/fossick/laws.FnExactSortOf -/
def l_FnExactSortOf_arg : Sh := ⟨[.pv (.sl (.pair (.int .i64) (.pair (.sl (.pair .str .str)) (.sl (.pair .str (.int .i64)))))), .pv (.sl (.pair .str .bool))], []⟩
def l_FnExactSortOf_ret : Sh := ⟨[.pv .bool], []⟩
def l_FnExactSortOf_h : Hint := .no
def l_FnExactSortOf_m (N : Nat) (aDocs : List (Int × (List ((List UInt8) × (List UInt8))) × (List ((List UInt8) × Int)))) (aKeys : List ((List UInt8) × Bool)) : Option (Bool) :=
  (Option.bind (l_szDocS_m N aDocs 1048576) fun (r : Int) =>
    (bif (decide (r < 0)) then
      (some true)
      else
      (Option.bind (l_szKeyS_m N aKeys r) fun (r2 : Int) =>
        (bif (decide (r2 < 0)) then
          (some true)
          else
          (Option.bind (l_toDocS_m N aDocs) fun (r3 : (List (Int × (List ((List UInt8) × (List UInt8))) × (List ((List UInt8) × Int))))) =>
            (Option.bind (l_toKeyS_m N aKeys) fun (r4 : (List ((List UInt8) × Bool))) =>
              (Option.bind (s_SortOf_m N r3 r4) fun (r5 : (List Int)) =>
                (Option.bind (l_toDocS_m N aDocs) fun (r6 : (List (Int × (List ((List UInt8) × (List UInt8))) × (List ((List UInt8) × Int))))) =>
                  (Option.bind (l_toKeyS_m N aKeys) fun (r7 : (List ((List UInt8) × Bool))) =>
                    (Option.bind (i_SortOf_m N r6 r7) fun (r8 : (List Int)) =>
                      (Option.bind (l_eqIntS_m N r8 r5) fun (r9 : Bool) =>
                        (bif (!r9) then
                          (some false)
                          else
                          (Option.bind (l_toDocS_m N aDocs) fun (r10 : (List (Int × (List ((List UInt8) × (List UInt8))) × (List ((List UInt8) × Int))))) =>
                            (Option.bind (l_eqDocS_m N r6 r10) fun (r11 : Bool) =>
                              (bif (!r11) then
                                (some false)
                                else
                                (Option.bind (l_toKeyS_m N aKeys) fun (r12 : (List ((List UInt8) × Bool))) =>
                                  (Option.bind (l_eqKeyS_m N r7 r12) fun (r13 : Bool) =>
                                    (bif (!r13) then
                                      (some false)
                                      else
                                      (Option.bind (l_markDocS_m N r6 1) fun (r14 : Int × (List (Int × (List ((List UInt8) × (List UInt8))) × (List ((List UInt8) × Int))))) =>
                                        (Option.bind (l_markKeyS_m N r7 r14.1) fun (r15 : Int × (List ((List UInt8) × Bool))) =>
                                          (bif (decide (r15.1 < 0)) then
                                            (some false)
                                            else
                                            (Option.bind (l_eqIntS_m N r8 r5) fun (r16 : Bool) =>
                                              (bif (!r16) then
                                                (some false)
                                                else
                                                (Option.bind (l_markIntS_m N r8 1) fun (r17 : Int × (List Int)) =>
                                                  (Option.bind (l_heldIntS_m N r17.2 1) fun (r18 : Int) =>
                                                    (bif (decide (r18 < 0)) then
                                                      (some false)
                                                      else
                                                      (bif (!decide (r18 = r17.1)) then
                                                        (some false)
                                                        else
                                                        (Option.bind (l_toDocS_m N aDocs) fun (r19 : (List (Int × (List ((List UInt8) × (List UInt8))) × (List ((List UInt8) × Int))))) =>
                                                          (Option.bind (l_toKeyS_m N aKeys) fun (r20 : (List ((List UInt8) × Bool))) =>
                                                            (Option.bind (i_SortOf_m N r19 r20) fun (r21 : (List Int)) =>
                                                              (Option.bind (l_eqIntS_m N r21 r5) fun (r22 : Bool) =>
                                                                (bif (!r22) then
                                                                  (some false)
                                                                  else
                                                                  (Option.bind (l_heldIntS_m N r17.2 1) fun (r23 : Int) =>
                                                                    (bif (decide (r23 < 0)) then
                                                                      (some false)
                                                                      else
                                                                      (bif (!decide (r23 = r17.1)) then
                                                                        (some false)
                                                                        else
                                                                        (some true))))))))))))))))))))))))))))))))))))
def l_FnExactSortOf_M (N : Nat) : Model := ⟨l_FnExactSortOf_arg, l_FnExactSortOf_ret, fun a => l_FnExactSortOf_m N a.1 a.2⟩
set_option maxRecDepth 1000000 in
theorem l_FnExactSortOf_ok (N : Nat) : ModelOk Try.prog 8 (l_FnExactSortOf_M N) :=
  modelOk_of (E := mkEnv [(30, l_szDocS_M N), (11, l_szKeyS_M N), (31, l_toDocS_M N), (14, l_toKeyS_M N), (23, s_SortOf_M N), (20, i_SortOf_M N), (32, l_eqIntS_M N), (33, l_eqDocS_M N), (17, l_eqKeyS_M N), (34, l_markDocS_M N), (35, l_markKeyS_M N), (36, l_markIntS_M N), (37, l_heldIntS_M N)] [] [] [25, 27, 30, 32, 35, 38, 42, 43, 47, 48, 61, 69, 76, 78, 79, 82, 86]) (mkEnv_ok (fnsOk_cons (l_szDocS_ok N) (fnsOk_cons (l_szKeyS_ok N) (fnsOk_cons (l_toDocS_ok N) (fnsOk_cons (l_toKeyS_ok N) (fnsOk_cons (s_SortOf_ok N) (fnsOk_cons (i_SortOf_ok N) (fnsOk_cons (l_eqIntS_ok N) (fnsOk_cons (l_eqDocS_ok N) (fnsOk_cons (l_eqKeyS_ok N) (fnsOk_cons (l_markDocS_ok N) (fnsOk_cons (l_markKeyS_ok N) (fnsOk_cons (l_markIntS_ok N) (fnsOk_cons (l_heldIntS_ok N) fnsOk_nil))))))))))))) _ _ _) Try.func8 (by kernel_rfl) rfl N l_FnExactSortOf_h (l_FnExactSortOf_M N) (by kernel_rfl) (by kernel_rfl) (fun a => by kernel_rfl)
/-! loop.example/fossick/laws.FnExactSortPage -/
def l_FnExactSortPage_arg : Sh := ⟨[.pv (.sl (.pair (.int .i64) (.pair (.sl (.pair .str .str)) (.sl (.pair .str (.int .i64)))))), .pv (.sl (.pair .str .bool)), .pv (.int .i64), .pv (.int .i64)], []⟩
def l_FnExactSortPage_ret : Sh := ⟨[.pv .bool], []⟩
def l_FnExactSortPage_h : Hint := .no
def l_FnExactSortPage_m (N : Nat) (aDocs : List (Int × (List ((List UInt8) × (List UInt8))) × (List ((List UInt8) × Int)))) (aKeys : List ((List UInt8) × Bool)) (aAfter : Int) (aMany : Int) : Option (Bool) :=
  (Option.bind (l_szDocS_m N aDocs 1048576) fun (r : Int) =>
    (bif (decide (r < 0)) then
      (some true)
      else
      (Option.bind (l_szKeyS_m N aKeys r) fun (r2 : Int) =>
        (bif (decide (r2 < 0)) then
          (some true)
          else
          (Option.bind (l_toDocS_m N aDocs) fun (r3 : (List (Int × (List ((List UInt8) × (List UInt8))) × (List ((List UInt8) × Int))))) =>
            (Option.bind (l_toKeyS_m N aKeys) fun (r4 : (List ((List UInt8) × Bool))) =>
              (Option.bind (s_SortPage_m N r3 r4 aAfter aMany) fun (r5 : (List Int)) =>
                (Option.bind (l_toDocS_m N aDocs) fun (r6 : (List (Int × (List ((List UInt8) × (List UInt8))) × (List ((List UInt8) × Int))))) =>
                  (Option.bind (l_toKeyS_m N aKeys) fun (r7 : (List ((List UInt8) × Bool))) =>
                    (Option.bind (i_SortPage_m N r6 r7 aAfter aMany) fun (r8 : (List Int)) =>
                      (Option.bind (l_eqIntS_m N r8 r5) fun (r9 : Bool) =>
                        (bif (!r9) then
                          (some false)
                          else
                          (Option.bind (l_toDocS_m N aDocs) fun (r10 : (List (Int × (List ((List UInt8) × (List UInt8))) × (List ((List UInt8) × Int))))) =>
                            (Option.bind (l_eqDocS_m N r6 r10) fun (r11 : Bool) =>
                              (bif (!r11) then
                                (some false)
                                else
                                (Option.bind (l_toKeyS_m N aKeys) fun (r12 : (List ((List UInt8) × Bool))) =>
                                  (Option.bind (l_eqKeyS_m N r7 r12) fun (r13 : Bool) =>
                                    (bif (!r13) then
                                      (some false)
                                      else
                                      (Option.bind (l_markDocS_m N r6 1) fun (r14 : Int × (List (Int × (List ((List UInt8) × (List UInt8))) × (List ((List UInt8) × Int))))) =>
                                        (Option.bind (l_markKeyS_m N r7 r14.1) fun (r15 : Int × (List ((List UInt8) × Bool))) =>
                                          (bif (decide (r15.1 < 0)) then
                                            (some false)
                                            else
                                            (Option.bind (l_eqIntS_m N r8 r5) fun (r16 : Bool) =>
                                              (bif (!r16) then
                                                (some false)
                                                else
                                                (Option.bind (l_markIntS_m N r8 1) fun (r17 : Int × (List Int)) =>
                                                  (Option.bind (l_heldIntS_m N r17.2 1) fun (r18 : Int) =>
                                                    (bif (decide (r18 < 0)) then
                                                      (some false)
                                                      else
                                                      (bif (!decide (r18 = r17.1)) then
                                                        (some false)
                                                        else
                                                        (Option.bind (l_toDocS_m N aDocs) fun (r19 : (List (Int × (List ((List UInt8) × (List UInt8))) × (List ((List UInt8) × Int))))) =>
                                                          (Option.bind (l_toKeyS_m N aKeys) fun (r20 : (List ((List UInt8) × Bool))) =>
                                                            (Option.bind (i_SortPage_m N r19 r20 aAfter aMany) fun (r21 : (List Int)) =>
                                                              (Option.bind (l_eqIntS_m N r21 r5) fun (r22 : Bool) =>
                                                                (bif (!r22) then
                                                                  (some false)
                                                                  else
                                                                  (Option.bind (l_heldIntS_m N r17.2 1) fun (r23 : Int) =>
                                                                    (bif (decide (r23 < 0)) then
                                                                      (some false)
                                                                      else
                                                                      (bif (!decide (r23 = r17.1)) then
                                                                        (some false)
                                                                        else
                                                                        (some true))))))))))))))))))))))))))))))))))))
def l_FnExactSortPage_M (N : Nat) : Model := ⟨l_FnExactSortPage_arg, l_FnExactSortPage_ret, fun a => l_FnExactSortPage_m N a.1 a.2.1 a.2.2.1 a.2.2.2⟩
set_option maxRecDepth 1000000 in
theorem l_FnExactSortPage_ok (N : Nat) : ModelOk Try.prog 9 (l_FnExactSortPage_M N) :=
  modelOk_of (E := mkEnv [(30, l_szDocS_M N), (11, l_szKeyS_M N), (31, l_toDocS_M N), (14, l_toKeyS_M N), (29, s_SortPage_M N), (28, i_SortPage_M N), (32, l_eqIntS_M N), (33, l_eqDocS_M N), (17, l_eqKeyS_M N), (34, l_markDocS_M N), (35, l_markKeyS_M N), (36, l_markIntS_M N), (37, l_heldIntS_M N)] [] [] [29, 31, 36, 38, 43, 46, 50, 51, 55, 56, 69, 77, 84, 86, 89, 92, 96]) (mkEnv_ok (fnsOk_cons (l_szDocS_ok N) (fnsOk_cons (l_szKeyS_ok N) (fnsOk_cons (l_toDocS_ok N) (fnsOk_cons (l_toKeyS_ok N) (fnsOk_cons (s_SortPage_ok N) (fnsOk_cons (i_SortPage_ok N) (fnsOk_cons (l_eqIntS_ok N) (fnsOk_cons (l_eqDocS_ok N) (fnsOk_cons (l_eqKeyS_ok N) (fnsOk_cons (l_markDocS_ok N) (fnsOk_cons (l_markKeyS_ok N) (fnsOk_cons (l_markIntS_ok N) (fnsOk_cons (l_heldIntS_ok N) fnsOk_nil))))))))))))) _ _ _) Try.func9 (by kernel_rfl) rfl N l_FnExactSortPage_h (l_FnExactSortPage_M N) (by kernel_rfl) (by kernel_rfl) (fun a => by kernel_rfl)
end Go.Proofs.Ytjggioppicabbaa
