import Derived.Test.YtjggioppicabbaaG1A
set_option linter.unusedVariables false
set_option linter.unusedSimpArgs false
namespace Go.Proofs.Ytjggioppicabbaa
open Go.RowKit
def k_slices_partitionEqualCmpFunc_776_arg : Sh := ⟨[.mtk 800000 (.pair (.int .i64) (.pair (.sl (.pair .str .str)) (.sl (.pair .str (.int .i64))))) 33 false, .pv (.int .i64), .pv (.int .i64), .pv (.int .i64), .clo 59 [.ptr (.sl (.pair .str .bool))]], []⟩
def k_slices_partitionEqualCmpFunc_776_ret : Sh := ⟨[.pv (.int .i64), .mtk 800000 (.pair (.int .i64) (.pair (.sl (.pair .str .str)) (.sl (.pair .str (.int .i64))))) 33 false], []⟩
def k_slices_partitionEqualCmpFunc_776_s1 : Sh := ⟨[.mtk 800000 (.pair (.int .i64) (.pair (.sl (.pair .str .str)) (.sl (.pair .str (.int .i64))))) 33 false, .pv (.int .i64), .dead, .dead, .clo 59 [.ptr (.sl (.pair .str .bool))], .dead, .dead, .dead, .dead, .dead, .dead, .pv (.int .i64), .pv (.int .i64), .dead, .dead, .dead, .dead, .dead, .dead, .dead, .dead, .dead, .dead, .dead, .dead, .dead, .dead, .dead, .dead, .dead, .dead, .dead, .dead, .dead, .dead, .dead, .dead, .dead, .dead, .dead, .dead, .dead, .dead, .dead, .dead, .dead, .dead, .dead, .dead, .dead, .dead, .dead, .dead, .dead, .dead, .dead, .dead, .dead, .dead, .dead, .dead, .dead, .dead, .dead, .dead, .dead, .dead, .dead, .dead, .dead, .dead, .dead, .dead, .dead, .dead, .dead, .dead, .dead, .dead, .dead, .dead, .dead, .dead, .dead, .dead, .dead, .dead, .dead, .dead, .dead], []⟩
def k_slices_partitionEqualCmpFunc_776_s2 : Sh := ⟨[.mtk 800000 (.pair (.int .i64) (.pair (.sl (.pair .str .str)) (.sl (.pair .str (.int .i64))))) 33 false, .pv (.int .i64), .dead, .dead, .clo 59 [.ptr (.sl (.pair .str .bool))], .dead, .dead, .dead, .dead, .dead, .dead, .pv (.int .i64), .pv (.int .i64), .dead, .dead, .dead, .dead, .dead, .dead, .dead, .dead, .dead, .dead, .dead, .dead, .dead, .dead, .dead, .dead, .dead, .dead, .dead, .dead, .dead, .dead, .dead, .dead, .dead, .dead, .dead, .dead, .dead, .dead, .dead, .dead, .dead, .dead, .dead, .dead, .dead, .dead, .dead, .dead, .dead, .dead, .dead, .dead, .dead, .dead, .dead, .dead, .dead, .dead, .dead, .dead, .dead, .dead, .dead, .dead, .dead, .dead, .dead, .dead, .dead, .dead, .dead, .dead, .dead, .dead, .dead, .dead, .dead, .dead, .dead, .dead, .dead, .dead, .dead, .dead, .dead], []⟩
def k_slices_partitionEqualCmpFunc_776_s3 : Sh := ⟨[.mtk 800000 (.pair (.int .i64) (.pair (.sl (.pair .str .str)) (.sl (.pair .str (.int .i64))))) 33 false, .pv (.int .i64), .dead, .dead, .clo 59 [.ptr (.sl (.pair .str .bool))], .dead, .dead, .dead, .dead, .dead, .dead, .pv (.int .i64), .pv (.int .i64), .dead, .dead, .dead, .dead, .dead, .dead, .dead, .dead, .dead, .dead, .dead, .dead, .dead, .dead, .dead, .dead, .dead, .dead, .dead, .dead, .dead, .dead, .dead, .dead, .dead, .dead, .dead, .dead, .dead, .dead, .dead, .dead, .dead, .dead, .dead, .dead, .dead, .dead, .dead, .dead, .dead, .dead, .dead, .dead, .dead, .dead, .dead, .dead, .dead, .dead, .dead, .dead, .dead, .dead, .dead, .dead, .dead, .dead, .dead, .dead, .dead, .dead, .dead, .dead, .dead, .dead, .dead, .dead, .dead, .dead, .dead, .dead, .dead, .dead, .dead, .dead, .dead], []⟩
def k_slices_partitionEqualCmpFunc_776_h : Hint := (.seq .no (.seq .no (.seq .no (.seq (.block (.loop k_slices_partitionEqualCmpFunc_776_s1 (.block (.seq (.block (.loop k_slices_partitionEqualCmpFunc_776_s2 .no)) (.seq (.block (.loop k_slices_partitionEqualCmpFunc_776_s3 .no)) .no))))) .no))))
def k_slices_partitionEqualCmpFunc_776_m (N : Nat) (data : List (Int × (List ((List UInt8) × (List UInt8))) × (List ((List UInt8) × Int)))) (a : Int) (b : Int) (pivot : Int) (cmp : List ((List UInt8) × Bool)) : Option (Int × (List (Int × (List ((List UInt8) × (List UInt8))) × (List ((List UInt8) × Int))))) :=
  (if 0 ≤ pivot ∧ pivot < (data.length : Int) then
    (Option.bind (data[pivot.toNat]?) fun (e : Int × (List ((List UInt8) × (List UInt8))) × (List ((List UInt8) × Int))) =>
      (if 0 ≤ a ∧ a < (data.length : Int) then
        (Option.bind (data[a.toNat]?) fun (e2 : Int × (List ((List UInt8) × (List UInt8))) × (List ((List UInt8) × Int))) =>
          (if 0 ≤ a ∧ a < (data.length : Int) then
            (Option.bind (data[a.toNat]?) fun (e3 : Int × (List ((List UInt8) × (List UInt8))) × (List ((List UInt8) × Int))) =>
              (if 0 ≤ pivot ∧ pivot < ((data.set a.toNat e).length : Int) then
                (Option.bind ((data.set a.toNat e)[pivot.toNat]?) fun (e4 : Int × (List ((List UInt8) × (List UInt8))) × (List ((List UInt8) × Int))) =>
                  (if fits (a + 1) then (if fits (b - 1) then (iter (fun (go : ((List (Int × (List ((List UInt8) × (List UInt8))) × (List ((List UInt8) × Int)))) × Int × (List ((List UInt8) × Bool)) × Int × Int) → Option (Int × (List (Int × (List ((List UInt8) × (List UInt8))) × (List ((List UInt8) × Int)))))) (g : (List (Int × (List ((List UInt8) × (List UInt8))) × (List ((List UInt8) × Int)))) × Int × (List ((List UInt8) × Bool)) × Int × Int) => 
                          match g with
                          | (data2, a2, cmp2, i, j) =>
                          (iter (fun (go2 : ((List (Int × (List ((List UInt8) × (List UInt8))) × (List ((List UInt8) × Int)))) × Int × (List ((List UInt8) × Bool)) × Int × Int) → Option (Int × (List (Int × (List ((List UInt8) × (List UInt8))) × (List ((List UInt8) × Int)))))) (g : (List (Int × (List ((List UInt8) × (List UInt8))) × (List ((List UInt8) × Int)))) × Int × (List ((List UInt8) × Bool)) × Int × Int) => 
                              match g with
                              | (data3, a3, cmp3, i2, j2) =>
                              (bif (decide (i2 ≤ j2)) then
                                (if 0 ≤ a3 ∧ a3 < (data3.length : Int) then
                                  (Option.bind (data3[a3.toNat]?) fun (e5 : Int × (List ((List UInt8) × (List UInt8))) × (List ((List UInt8) × Int))) =>
                                    (if 0 ≤ i2 ∧ i2 < (data3.length : Int) then
                                      (Option.bind (data3[i2.toNat]?) fun (e6 : Int × (List ((List UInt8) × (List UInt8))) × (List ((List UInt8) × Int))) =>
                                        (Option.bind (i_SortOf_1_m N e5.1 e5.2.1 e5.2.2 e6.1 e6.2.1 e6.2.2 cmp3) fun (r : Int) =>
                                          (bif (!(decide (r < 0))) then
                                            (if fits (i2 + 1) then (go2 (data3, a3, cmp3, (i2 + 1), j2)) else none)
                                            else
                                            (iter (fun (go3 : ((List (Int × (List ((List UInt8) × (List UInt8))) × (List ((List UInt8) × Int)))) × Int × (List ((List UInt8) × Bool)) × Int × Int) → Option (Int × (List (Int × (List ((List UInt8) × (List UInt8))) × (List ((List UInt8) × Int)))))) (g : (List (Int × (List ((List UInt8) × (List UInt8))) × (List ((List UInt8) × Int)))) × Int × (List ((List UInt8) × Bool)) × Int × Int) => 
                                                match g with
                                                | (data4, a4, cmp4, i3, j3) =>
                                                (bif (decide (i3 ≤ j3)) then
                                                  (if 0 ≤ a4 ∧ a4 < (data4.length : Int) then
                                                    (Option.bind (data4[a4.toNat]?) fun (e7 : Int × (List ((List UInt8) × (List UInt8))) × (List ((List UInt8) × Int))) =>
                                                      (if 0 ≤ j3 ∧ j3 < (data4.length : Int) then
                                                        (Option.bind (data4[j3.toNat]?) fun (e8 : Int × (List ((List UInt8) × (List UInt8))) × (List ((List UInt8) × Int))) =>
                                                          (Option.bind (i_SortOf_1_m N e7.1 e7.2.1 e7.2.2 e8.1 e8.2.1 e8.2.2 cmp4) fun (r2 : Int) =>
                                                            (bif (decide (r2 < 0)) then
                                                              (if fits (j3 - 1) then (go3 (data4, a4, cmp4, i3, (j3 - 1))) else none)
                                                              else
                                                              (bif (decide (j3 < i3)) then
                                                                (some (i3, data4))
                                                                else
                                                                (if 0 ≤ j3 ∧ j3 < (data4.length : Int) then
                                                                  (Option.bind (data4[j3.toNat]?) fun (e9 : Int × (List ((List UInt8) × (List UInt8))) × (List ((List UInt8) × Int))) =>
                                                                    (if 0 ≤ i3 ∧ i3 < (data4.length : Int) then
                                                                      (Option.bind (data4[i3.toNat]?) fun (e10 : Int × (List ((List UInt8) × (List UInt8))) × (List ((List UInt8) × Int))) =>
                                                                        (if 0 ≤ i3 ∧ i3 < (data4.length : Int) then
                                                                          (Option.bind (data4[i3.toNat]?) fun (e11 : Int × (List ((List UInt8) × (List UInt8))) × (List ((List UInt8) × Int))) =>
                                                                            (if 0 ≤ j3 ∧ j3 < ((data4.set i3.toNat e9).length : Int) then
                                                                              (Option.bind ((data4.set i3.toNat e9)[j3.toNat]?) fun (e12 : Int × (List ((List UInt8) × (List UInt8))) × (List ((List UInt8) × Int))) =>
                                                                                (if fits (i3 + 1) then (if fits (j3 - 1) then (go (((data4.set i3.toNat e9).set j3.toNat e10), a4, cmp4, (i3 + 1), (j3 - 1))) else none) else none))
                                                                              else none))
                                                                          else none))
                                                                      else none))
                                                                  else none)))))
                                                        else none))
                                                    else none)
                                                  else
                                                  (bif (decide (j3 < i3)) then
                                                    (some (i3, data4))
                                                    else
                                                    (if 0 ≤ j3 ∧ j3 < (data4.length : Int) then
                                                      (Option.bind (data4[j3.toNat]?) fun (e13 : Int × (List ((List UInt8) × (List UInt8))) × (List ((List UInt8) × Int))) =>
                                                        (if 0 ≤ i3 ∧ i3 < (data4.length : Int) then
                                                          (Option.bind (data4[i3.toNat]?) fun (e14 : Int × (List ((List UInt8) × (List UInt8))) × (List ((List UInt8) × Int))) =>
                                                            (if 0 ≤ i3 ∧ i3 < (data4.length : Int) then
                                                              (Option.bind (data4[i3.toNat]?) fun (e15 : Int × (List ((List UInt8) × (List UInt8))) × (List ((List UInt8) × Int))) =>
                                                                (if 0 ≤ j3 ∧ j3 < ((data4.set i3.toNat e13).length : Int) then
                                                                  (Option.bind ((data4.set i3.toNat e13)[j3.toNat]?) fun (e16 : Int × (List ((List UInt8) × (List UInt8))) × (List ((List UInt8) × Int))) =>
                                                                    (if fits (i3 + 1) then (if fits (j3 - 1) then (go (((data4.set i3.toNat e13).set j3.toNat e14), a4, cmp4, (i3 + 1), (j3 - 1))) else none) else none))
                                                                  else none))
                                                              else none))
                                                          else none))
                                                      else none)))) N (data3, a3, cmp3, i2, j2)))))
                                      else none))
                                  else none)
                                else
                                (iter (fun (go4 : ((List (Int × (List ((List UInt8) × (List UInt8))) × (List ((List UInt8) × Int)))) × Int × (List ((List UInt8) × Bool)) × Int × Int) → Option (Int × (List (Int × (List ((List UInt8) × (List UInt8))) × (List ((List UInt8) × Int)))))) (g : (List (Int × (List ((List UInt8) × (List UInt8))) × (List ((List UInt8) × Int)))) × Int × (List ((List UInt8) × Bool)) × Int × Int) => 
                                    match g with
                                    | (data5, a5, cmp5, i4, j4) =>
                                    (bif (decide (i4 ≤ j4)) then
                                      (if 0 ≤ a5 ∧ a5 < (data5.length : Int) then
                                        (Option.bind (data5[a5.toNat]?) fun (e17 : Int × (List ((List UInt8) × (List UInt8))) × (List ((List UInt8) × Int))) =>
                                          (if 0 ≤ j4 ∧ j4 < (data5.length : Int) then
                                            (Option.bind (data5[j4.toNat]?) fun (e18 : Int × (List ((List UInt8) × (List UInt8))) × (List ((List UInt8) × Int))) =>
                                              (Option.bind (i_SortOf_1_m N e17.1 e17.2.1 e17.2.2 e18.1 e18.2.1 e18.2.2 cmp5) fun (r3 : Int) =>
                                                (bif (decide (r3 < 0)) then
                                                  (if fits (j4 - 1) then (go4 (data5, a5, cmp5, i4, (j4 - 1))) else none)
                                                  else
                                                  (bif (decide (j4 < i4)) then
                                                    (some (i4, data5))
                                                    else
                                                    (if 0 ≤ j4 ∧ j4 < (data5.length : Int) then
                                                      (Option.bind (data5[j4.toNat]?) fun (e19 : Int × (List ((List UInt8) × (List UInt8))) × (List ((List UInt8) × Int))) =>
                                                        (if 0 ≤ i4 ∧ i4 < (data5.length : Int) then
                                                          (Option.bind (data5[i4.toNat]?) fun (e20 : Int × (List ((List UInt8) × (List UInt8))) × (List ((List UInt8) × Int))) =>
                                                            (if 0 ≤ i4 ∧ i4 < (data5.length : Int) then
                                                              (Option.bind (data5[i4.toNat]?) fun (e21 : Int × (List ((List UInt8) × (List UInt8))) × (List ((List UInt8) × Int))) =>
                                                                (if 0 ≤ j4 ∧ j4 < ((data5.set i4.toNat e19).length : Int) then
                                                                  (Option.bind ((data5.set i4.toNat e19)[j4.toNat]?) fun (e22 : Int × (List ((List UInt8) × (List UInt8))) × (List ((List UInt8) × Int))) =>
                                                                    (if fits (i4 + 1) then (if fits (j4 - 1) then (go (((data5.set i4.toNat e19).set j4.toNat e20), a5, cmp5, (i4 + 1), (j4 - 1))) else none) else none))
                                                                  else none))
                                                              else none))
                                                          else none))
                                                      else none)))))
                                            else none))
                                        else none)
                                      else
                                      (bif (decide (j4 < i4)) then
                                        (some (i4, data5))
                                        else
                                        (if 0 ≤ j4 ∧ j4 < (data5.length : Int) then
                                          (Option.bind (data5[j4.toNat]?) fun (e23 : Int × (List ((List UInt8) × (List UInt8))) × (List ((List UInt8) × Int))) =>
                                            (if 0 ≤ i4 ∧ i4 < (data5.length : Int) then
                                              (Option.bind (data5[i4.toNat]?) fun (e24 : Int × (List ((List UInt8) × (List UInt8))) × (List ((List UInt8) × Int))) =>
                                                (if 0 ≤ i4 ∧ i4 < (data5.length : Int) then
                                                  (Option.bind (data5[i4.toNat]?) fun (e25 : Int × (List ((List UInt8) × (List UInt8))) × (List ((List UInt8) × Int))) =>
                                                    (if 0 ≤ j4 ∧ j4 < ((data5.set i4.toNat e23).length : Int) then
                                                      (Option.bind ((data5.set i4.toNat e23)[j4.toNat]?) fun (e26 : Int × (List ((List UInt8) × (List UInt8))) × (List ((List UInt8) × Int))) =>
                                                        (if fits (i4 + 1) then (if fits (j4 - 1) then (go (((data5.set i4.toNat e23).set j4.toNat e24), a5, cmp5, (i4 + 1), (j4 - 1))) else none) else none))
                                                      else none))
                                                  else none))
                                              else none))
                                          else none)))) N (data3, a3, cmp3, i2, j2)))) N (data2, a2, cmp2, i, j))) N (((data.set a.toNat e).set pivot.toNat e2), a, cmp, (a + 1), (b - 1))) else none) else none))
                else none))
            else none))
        else none))
    else none)
def k_slices_partitionEqualCmpFunc_776_M (N : Nat) : Model := ⟨k_slices_partitionEqualCmpFunc_776_arg, k_slices_partitionEqualCmpFunc_776_ret, fun a => k_slices_partitionEqualCmpFunc_776_m N a.1 a.2.1 a.2.2.1 a.2.2.2.1 a.2.2.2.2⟩
set_option maxRecDepth 1000000 in
theorem k_slices_partitionEqualCmpFunc_776_ok (N : Nat) : ModelOk Try.prog 96 (k_slices_partitionEqualCmpFunc_776_M N) :=
  modelOk_of (E := mkEnv [(59, i_SortOf_1_M N)] [] [800000]) (mkEnv_ok (fnsOk_cons (i_SortOf_1_ok N) fnsOk_nil) _ _) Try.func96 (by kernel_rfl) rfl N k_slices_partitionEqualCmpFunc_776_h (k_slices_partitionEqualCmpFunc_776_M N) (by kernel_rfl) (by kernel_rfl) (fun a => by kernel_rfl)
/-! slices.partitionCmpFunc[loop.example/fossick/impl.Doc] -/
def k_slices_partitionCmpFunc_789_arg : Sh := ⟨[.mtk 800000 (.pair (.int .i64) (.pair (.sl (.pair .str .str)) (.sl (.pair .str (.int .i64))))) 33 false, .pv (.int .i64), .pv (.int .i64), .pv (.int .i64), .clo 59 [.ptr (.sl (.pair .str .bool))]], []⟩
def k_slices_partitionCmpFunc_789_ret : Sh := ⟨[.tup [.pv (.int .i64), .pv .bool], .mtk 800000 (.pair (.int .i64) (.pair (.sl (.pair .str .str)) (.sl (.pair .str (.int .i64))))) 33 false], []⟩
def k_slices_partitionCmpFunc_789_s1 : Sh := ⟨[.mtk 800000 (.pair (.int .i64) (.pair (.sl (.pair .str .str)) (.sl (.pair .str (.int .i64))))) 33 false, .pv (.int .i64), .dead, .dead, .clo 59 [.ptr (.sl (.pair .str .bool))], .dead, .dead, .dead, .dead, .dead, .dead, .dead, .pv (.int .i64), .pv (.int .i64), .dead, .dead, .dead, .dead, .dead, .dead, .dead, .dead, .dead, .dead, .dead, .dead, .dead, .dead, .dead, .dead, .dead, .dead, .dead, .dead, .dead, .dead, .dead, .dead, .dead, .dead, .dead, .dead, .dead, .dead, .dead, .dead, .dead, .dead, .dead, .dead, .dead, .dead, .dead, .dead, .dead, .dead, .dead, .dead, .dead, .dead, .dead, .dead, .dead, .dead, .dead, .dead, .dead, .dead, .dead, .dead, .dead, .dead, .dead, .dead, .dead, .dead, .dead, .dead, .dead, .dead, .dead, .dead, .dead, .dead, .dead, .dead, .dead, .dead, .dead, .dead, .dead, .dead, .dead, .dead, .dead, .dead, .dead, .dead, .dead, .dead, .dead, .dead, .dead, .dead, .dead, .dead, .dead, .dead, .dead, .dead, .dead, .dead, .dead, .dead, .dead, .dead, .dead, .dead, .dead, .dead, .dead, .dead, .dead, .dead, .dead, .dead, .dead, .dead, .dead, .dead, .dead, .dead, .dead, .dead, .dead, .dead, .dead, .dead, .dead, .dead, .dead, .dead, .dead, .dead, .dead, .dead, .dead, .dead, .dead, .dead, .dead, .dead, .dead, .dead, .dead, .dead, .dead, .dead, .dead, .dead, .dead, .dead, .dead, .dead, .dead, .dead, .dead, .dead, .dead, .dead, .dead, .dead, .dead, .dead, .dead, .dead, .dead, .dead], []⟩
def k_slices_partitionCmpFunc_789_s2 : Sh := ⟨[.mtk 800000 (.pair (.int .i64) (.pair (.sl (.pair .str .str)) (.sl (.pair .str (.int .i64))))) 33 false, .pv (.int .i64), .dead, .dead, .clo 59 [.ptr (.sl (.pair .str .bool))], .dead, .dead, .dead, .dead, .dead, .dead, .dead, .pv (.int .i64), .pv (.int .i64), .dead, .dead, .dead, .dead, .dead, .dead, .dead, .dead, .dead, .dead, .dead, .dead, .dead, .dead, .dead, .dead, .dead, .dead, .dead, .dead, .dead, .dead, .dead, .dead, .dead, .dead, .dead, .dead, .dead, .dead, .dead, .dead, .dead, .dead, .dead, .dead, .dead, .dead, .dead, .dead, .dead, .dead, .dead, .dead, .dead, .dead, .dead, .dead, .dead, .dead, .dead, .dead, .dead, .dead, .dead, .dead, .dead, .dead, .dead, .dead, .dead, .dead, .dead, .dead, .dead, .dead, .dead, .dead, .dead, .dead, .dead, .dead, .dead, .dead, .dead, .dead, .dead, .dead, .dead, .dead, .dead, .dead, .dead, .dead, .dead, .dead, .dead, .dead, .dead, .dead, .dead, .dead, .dead, .dead, .dead, .dead, .dead, .dead, .dead, .dead, .dead, .dead, .dead, .dead, .dead, .dead, .dead, .dead, .dead, .dead, .dead, .dead, .dead, .dead, .dead, .dead, .dead, .dead, .dead, .dead, .dead, .dead, .dead, .dead, .dead, .dead, .dead, .dead, .dead, .dead, .dead, .dead, .dead, .dead, .dead, .dead, .dead, .dead, .dead, .dead, .dead, .dead, .dead, .dead, .dead, .dead, .dead, .dead, .dead, .dead, .dead, .dead, .dead, .dead, .dead, .dead, .dead, .dead, .dead, .dead, .dead, .dead, .dead, .dead], []⟩
def k_slices_partitionCmpFunc_789_s3 : Sh := ⟨[.mtk 800000 (.pair (.int .i64) (.pair (.sl (.pair .str .str)) (.sl (.pair .str (.int .i64))))) 33 false, .pv (.int .i64), .dead, .dead, .clo 59 [.ptr (.sl (.pair .str .bool))], .dead, .dead, .dead, .dead, .dead, .dead, .dead, .pv (.int .i64), .pv (.int .i64), .dead, .dead, .dead, .dead, .dead, .dead, .dead, .dead, .dead, .dead, .dead, .dead, .dead, .dead, .dead, .dead, .dead, .dead, .dead, .dead, .dead, .dead, .dead, .dead, .dead, .dead, .dead, .dead, .dead, .dead, .dead, .dead, .dead, .dead, .dead, .dead, .dead, .dead, .dead, .dead, .dead, .dead, .dead, .dead, .dead, .dead, .dead, .dead, .dead, .dead, .dead, .dead, .dead, .dead, .dead, .dead, .dead, .dead, .dead, .dead, .dead, .dead, .dead, .dead, .dead, .dead, .dead, .dead, .dead, .dead, .dead, .dead, .dead, .dead, .dead, .dead, .dead, .dead, .dead, .dead, .dead, .dead, .dead, .dead, .dead, .dead, .dead, .dead, .dead, .dead, .dead, .dead, .dead, .dead, .dead, .dead, .dead, .dead, .dead, .dead, .dead, .dead, .dead, .dead, .dead, .dead, .dead, .dead, .dead, .dead, .dead, .dead, .dead, .dead, .dead, .dead, .dead, .dead, .dead, .dead, .dead, .dead, .dead, .dead, .dead, .dead, .dead, .dead, .dead, .dead, .dead, .dead, .dead, .dead, .dead, .dead, .dead, .dead, .dead, .dead, .dead, .dead, .dead, .dead, .dead, .dead, .dead, .dead, .dead, .dead, .dead, .dead, .dead, .dead, .dead, .dead, .dead, .dead, .dead, .dead, .dead, .dead, .dead, .dead], []⟩
def k_slices_partitionCmpFunc_789_s4 : Sh := ⟨[.mtk 800000 (.pair (.int .i64) (.pair (.sl (.pair .str .str)) (.sl (.pair .str (.int .i64))))) 33 false, .pv (.int .i64), .dead, .dead, .clo 59 [.ptr (.sl (.pair .str .bool))], .dead, .dead, .dead, .dead, .dead, .dead, .dead, .pv (.int .i64), .pv (.int .i64), .dead, .dead, .dead, .dead, .dead, .dead, .dead, .dead, .dead, .dead, .dead, .dead, .dead, .dead, .dead, .dead, .dead, .dead, .dead, .dead, .dead, .dead, .dead, .dead, .dead, .dead, .dead, .dead, .dead, .dead, .dead, .dead, .dead, .dead, .dead, .dead, .dead, .dead, .dead, .dead, .dead, .dead, .dead, .dead, .dead, .dead, .dead, .dead, .dead, .dead, .dead, .dead, .dead, .dead, .dead, .dead, .dead, .dead, .dead, .dead, .dead, .dead, .dead, .dead, .dead, .dead, .dead, .dead, .dead, .dead, .dead, .dead, .dead, .dead, .dead, .dead, .dead, .dead, .dead, .dead, .dead, .dead, .dead, .dead, .dead, .dead, .dead, .dead, .dead, .dead, .dead, .dead, .dead, .dead, .dead, .dead, .dead, .dead, .dead, .dead, .dead, .dead, .dead, .dead, .dead, .dead, .dead, .dead, .dead, .dead, .dead, .dead, .dead, .dead, .dead, .dead, .dead, .dead, .dead, .dead, .dead, .dead, .dead, .dead, .dead, .dead, .dead, .dead, .dead, .dead, .dead, .dead, .dead, .dead, .dead, .dead, .dead, .dead, .dead, .dead, .dead, .dead, .dead, .dead, .dead, .dead, .dead, .dead, .dead, .dead, .dead, .dead, .dead, .dead, .dead, .dead, .dead, .dead, .dead, .dead, .dead, .dead, .dead, .dead], []⟩
def k_slices_partitionCmpFunc_789_s5 : Sh := ⟨[.mtk 800000 (.pair (.int .i64) (.pair (.sl (.pair .str .str)) (.sl (.pair .str (.int .i64))))) 33 false, .pv (.int .i64), .dead, .dead, .clo 59 [.ptr (.sl (.pair .str .bool))], .dead, .dead, .dead, .dead, .dead, .dead, .dead, .pv (.int .i64), .pv (.int .i64), .dead, .dead, .dead, .dead, .dead, .dead, .dead, .dead, .dead, .dead, .dead, .dead, .dead, .dead, .dead, .dead, .dead, .dead, .dead, .dead, .dead, .dead, .dead, .dead, .dead, .dead, .dead, .dead, .dead, .dead, .dead, .dead, .dead, .dead, .dead, .dead, .dead, .dead, .dead, .dead, .dead, .dead, .dead, .dead, .dead, .dead, .dead, .dead, .dead, .dead, .dead, .dead, .dead, .dead, .dead, .dead, .dead, .dead, .dead, .dead, .dead, .dead, .dead, .dead, .dead, .dead, .dead, .dead, .dead, .dead, .dead, .dead, .dead, .dead, .dead, .dead, .dead, .dead, .dead, .dead, .dead, .dead, .dead, .dead, .dead, .dead, .dead, .dead, .dead, .dead, .dead, .dead, .dead, .dead, .dead, .dead, .dead, .dead, .dead, .dead, .dead, .dead, .dead, .dead, .dead, .dead, .dead, .dead, .dead, .dead, .dead, .dead, .dead, .dead, .dead, .dead, .dead, .dead, .dead, .dead, .dead, .dead, .dead, .dead, .dead, .dead, .dead, .dead, .dead, .dead, .dead, .dead, .dead, .dead, .dead, .dead, .dead, .dead, .dead, .dead, .dead, .dead, .dead, .dead, .dead, .dead, .dead, .dead, .dead, .dead, .dead, .dead, .dead, .dead, .dead, .dead, .dead, .dead, .dead, .dead, .dead, .dead, .dead, .dead], []⟩
def k_slices_partitionCmpFunc_789_h : Hint := (.seq .no (.seq .no (.seq .no (.seq (.block (.loop k_slices_partitionCmpFunc_789_s1 .no)) (.seq (.block (.loop k_slices_partitionCmpFunc_789_s2 .no)) (.seq .no (.seq .no (.seq .no (.seq .no (.seq (.block (.loop k_slices_partitionCmpFunc_789_s3 (.block (.seq (.block (.loop k_slices_partitionCmpFunc_789_s4 .no)) (.seq (.block (.loop k_slices_partitionCmpFunc_789_s5 .no)) .no))))) .no))))))))))
def k_slices_partitionCmpFunc_789_m (N : Nat) (data : List (Int × (List ((List UInt8) × (List UInt8))) × (List ((List UInt8) × Int)))) (a : Int) (b : Int) (pivot : Int) (cmp : List ((List UInt8) × Bool)) : Option (Int × Bool × (List (Int × (List ((List UInt8) × (List UInt8))) × (List ((List UInt8) × Int))))) :=
  (if 0 ≤ pivot ∧ pivot < (data.length : Int) then
    (Option.bind (data[pivot.toNat]?) fun (e : Int × (List ((List UInt8) × (List UInt8))) × (List ((List UInt8) × Int))) =>
      (if 0 ≤ a ∧ a < (data.length : Int) then
        (Option.bind (data[a.toNat]?) fun (e2 : Int × (List ((List UInt8) × (List UInt8))) × (List ((List UInt8) × Int))) =>
          (if 0 ≤ a ∧ a < (data.length : Int) then
            (Option.bind (data[a.toNat]?) fun (e3 : Int × (List ((List UInt8) × (List UInt8))) × (List ((List UInt8) × Int))) =>
              (if 0 ≤ pivot ∧ pivot < ((data.set a.toNat e).length : Int) then
                (Option.bind ((data.set a.toNat e)[pivot.toNat]?) fun (e4 : Int × (List ((List UInt8) × (List UInt8))) × (List ((List UInt8) × Int))) =>
                  (if fits (a + 1) then (if fits (b - 1) then (iter (fun (go : ((List (Int × (List ((List UInt8) × (List UInt8))) × (List ((List UInt8) × Int)))) × Int × (List ((List UInt8) × Bool)) × Int × Int) → Option (Int × Bool × (List (Int × (List ((List UInt8) × (List UInt8))) × (List ((List UInt8) × Int)))))) (g : (List (Int × (List ((List UInt8) × (List UInt8))) × (List ((List UInt8) × Int)))) × Int × (List ((List UInt8) × Bool)) × Int × Int) => 
                          match g with
                          | (data2, a2, cmp2, i, j) =>
                          (bif (decide (i ≤ j)) then
                            (if 0 ≤ i ∧ i < (data2.length : Int) then
                              (Option.bind (data2[i.toNat]?) fun (e5 : Int × (List ((List UInt8) × (List UInt8))) × (List ((List UInt8) × Int))) =>
                                (if 0 ≤ a2 ∧ a2 < (data2.length : Int) then
                                  (Option.bind (data2[a2.toNat]?) fun (e6 : Int × (List ((List UInt8) × (List UInt8))) × (List ((List UInt8) × Int))) =>
                                    (Option.bind (i_SortOf_1_m N e5.1 e5.2.1 e5.2.2 e6.1 e6.2.1 e6.2.2 cmp2) fun (r : Int) =>
                                      (bif (decide (r < 0)) then
                                        (if fits (i + 1) then (go (data2, a2, cmp2, (i + 1), j)) else none)
                                        else
                                        (iter (fun (go2 : ((List (Int × (List ((List UInt8) × (List UInt8))) × (List ((List UInt8) × Int)))) × Int × (List ((List UInt8) × Bool)) × Int × Int) → Option (Int × Bool × (List (Int × (List ((List UInt8) × (List UInt8))) × (List ((List UInt8) × Int)))))) (g : (List (Int × (List ((List UInt8) × (List UInt8))) × (List ((List UInt8) × Int)))) × Int × (List ((List UInt8) × Bool)) × Int × Int) => 
                                            match g with
                                            | (data3, a3, cmp3, i2, j2) =>
                                            (bif (decide (i2 ≤ j2)) then
                                              (if 0 ≤ j2 ∧ j2 < (data3.length : Int) then
                                                (Option.bind (data3[j2.toNat]?) fun (e7 : Int × (List ((List UInt8) × (List UInt8))) × (List ((List UInt8) × Int))) =>
                                                  (if 0 ≤ a3 ∧ a3 < (data3.length : Int) then
                                                    (Option.bind (data3[a3.toNat]?) fun (e8 : Int × (List ((List UInt8) × (List UInt8))) × (List ((List UInt8) × Int))) =>
                                                      (Option.bind (i_SortOf_1_m N e7.1 e7.2.1 e7.2.2 e8.1 e8.2.1 e8.2.2 cmp3) fun (r2 : Int) =>
                                                        (bif (!(decide (r2 < 0))) then
                                                          (if fits (j2 - 1) then (go2 (data3, a3, cmp3, i2, (j2 - 1))) else none)
                                                          else
                                                          (bif (decide (j2 < i2)) then
                                                            (if 0 ≤ a3 ∧ a3 < (data3.length : Int) then
                                                              (Option.bind (data3[a3.toNat]?) fun (e9 : Int × (List ((List UInt8) × (List UInt8))) × (List ((List UInt8) × Int))) =>
                                                                (if 0 ≤ j2 ∧ j2 < (data3.length : Int) then
                                                                  (Option.bind (data3[j2.toNat]?) fun (e10 : Int × (List ((List UInt8) × (List UInt8))) × (List ((List UInt8) × Int))) =>
                                                                    (if 0 ≤ j2 ∧ j2 < (data3.length : Int) then
                                                                      (Option.bind (data3[j2.toNat]?) fun (e11 : Int × (List ((List UInt8) × (List UInt8))) × (List ((List UInt8) × Int))) =>
                                                                        (if 0 ≤ a3 ∧ a3 < ((data3.set j2.toNat e9).length : Int) then
                                                                          (Option.bind ((data3.set j2.toNat e9)[a3.toNat]?) fun (e12 : Int × (List ((List UInt8) × (List UInt8))) × (List ((List UInt8) × Int))) =>
                                                                            (some (j2, true, ((data3.set j2.toNat e9).set a3.toNat e10))))
                                                                          else none))
                                                                      else none))
                                                                  else none))
                                                              else none)
                                                            else
                                                            (if 0 ≤ j2 ∧ j2 < (data3.length : Int) then
                                                              (Option.bind (data3[j2.toNat]?) fun (e13 : Int × (List ((List UInt8) × (List UInt8))) × (List ((List UInt8) × Int))) =>
                                                                (if 0 ≤ i2 ∧ i2 < (data3.length : Int) then
                                                                  (Option.bind (data3[i2.toNat]?) fun (e14 : Int × (List ((List UInt8) × (List UInt8))) × (List ((List UInt8) × Int))) =>
                                                                    (if 0 ≤ i2 ∧ i2 < (data3.length : Int) then
                                                                      (Option.bind (data3[i2.toNat]?) fun (e15 : Int × (List ((List UInt8) × (List UInt8))) × (List ((List UInt8) × Int))) =>
                                                                        (if 0 ≤ j2 ∧ j2 < ((data3.set i2.toNat e13).length : Int) then
                                                                          (Option.bind ((data3.set i2.toNat e13)[j2.toNat]?) fun (e16 : Int × (List ((List UInt8) × (List UInt8))) × (List ((List UInt8) × Int))) =>
                                                                            (if fits (i2 + 1) then (if fits (j2 - 1) then (iter (fun (go3 : ((List (Int × (List ((List UInt8) × (List UInt8))) × (List ((List UInt8) × Int)))) × Int × (List ((List UInt8) × Bool)) × Int × Int) → Option (Int × Bool × (List (Int × (List ((List UInt8) × (List UInt8))) × (List ((List UInt8) × Int)))))) (g : (List (Int × (List ((List UInt8) × (List UInt8))) × (List ((List UInt8) × Int)))) × Int × (List ((List UInt8) × Bool)) × Int × Int) => 
                                                                                match g with
                                                                                | (data4, a4, cmp4, i3, j3) =>
                                                                                (iter (fun (go4 : ((List (Int × (List ((List UInt8) × (List UInt8))) × (List ((List UInt8) × Int)))) × Int × (List ((List UInt8) × Bool)) × Int × Int) → Option (Int × Bool × (List (Int × (List ((List UInt8) × (List UInt8))) × (List ((List UInt8) × Int)))))) (g : (List (Int × (List ((List UInt8) × (List UInt8))) × (List ((List UInt8) × Int)))) × Int × (List ((List UInt8) × Bool)) × Int × Int) => 
                                                                                match g with
                                                                                | (data5, a5, cmp5, i4, j4) =>
                                                                                (bif (decide (i4 ≤ j4)) then
                                                                                (if 0 ≤ i4 ∧ i4 < (data5.length : Int) then
                                                                                (Option.bind (data5[i4.toNat]?) fun (e17 : Int × (List ((List UInt8) × (List UInt8))) × (List ((List UInt8) × Int))) =>
                                                                                (if 0 ≤ a5 ∧ a5 < (data5.length : Int) then
                                                                                (Option.bind (data5[a5.toNat]?) fun (e18 : Int × (List ((List UInt8) × (List UInt8))) × (List ((List UInt8) × Int))) =>
                                                                                (Option.bind (i_SortOf_1_m N e17.1 e17.2.1 e17.2.2 e18.1 e18.2.1 e18.2.2 cmp5) fun (r3 : Int) =>
                                                                                (bif (decide (r3 < 0)) then
                                                                                (if fits (i4 + 1) then (go4 (data5, a5, cmp5, (i4 + 1), j4)) else none)
                                                                                else
                                                                                (iter (fun (go5 : ((List (Int × (List ((List UInt8) × (List UInt8))) × (List ((List UInt8) × Int)))) × Int × (List ((List UInt8) × Bool)) × Int × Int) → Option (Int × Bool × (List (Int × (List ((List UInt8) × (List UInt8))) × (List ((List UInt8) × Int)))))) (g : (List (Int × (List ((List UInt8) × (List UInt8))) × (List ((List UInt8) × Int)))) × Int × (List ((List UInt8) × Bool)) × Int × Int) => 
                                                                                match g with
                                                                                | (data6, a6, cmp6, i5, j5) =>
                                                                                (bif (decide (i5 ≤ j5)) then
                                                                                (if 0 ≤ j5 ∧ j5 < (data6.length : Int) then
                                                                                (Option.bind (data6[j5.toNat]?) fun (e19 : Int × (List ((List UInt8) × (List UInt8))) × (List ((List UInt8) × Int))) =>
                                                                                (if 0 ≤ a6 ∧ a6 < (data6.length : Int) then
                                                                                (Option.bind (data6[a6.toNat]?) fun (e20 : Int × (List ((List UInt8) × (List UInt8))) × (List ((List UInt8) × Int))) =>
                                                                                (Option.bind (i_SortOf_1_m N e19.1 e19.2.1 e19.2.2 e20.1 e20.2.1 e20.2.2 cmp6) fun (r4 : Int) =>
                                                                                (bif (!(decide (r4 < 0))) then
                                                                                (if fits (j5 - 1) then (go5 (data6, a6, cmp6, i5, (j5 - 1))) else none)
                                                                                else
                                                                                (bif (decide (j5 < i5)) then
                                                                                (if 0 ≤ a6 ∧ a6 < (data6.length : Int) then
                                                                                (Option.bind (data6[a6.toNat]?) fun (e21 : Int × (List ((List UInt8) × (List UInt8))) × (List ((List UInt8) × Int))) =>
                                                                                (if 0 ≤ j5 ∧ j5 < (data6.length : Int) then
                                                                                (Option.bind (data6[j5.toNat]?) fun (e22 : Int × (List ((List UInt8) × (List UInt8))) × (List ((List UInt8) × Int))) =>
                                                                                (if 0 ≤ j5 ∧ j5 < (data6.length : Int) then
                                                                                (Option.bind (data6[j5.toNat]?) fun (e23 : Int × (List ((List UInt8) × (List UInt8))) × (List ((List UInt8) × Int))) =>
                                                                                (if 0 ≤ a6 ∧ a6 < ((data6.set j5.toNat e21).length : Int) then
                                                                                (Option.bind ((data6.set j5.toNat e21)[a6.toNat]?) fun (e24 : Int × (List ((List UInt8) × (List UInt8))) × (List ((List UInt8) × Int))) =>
                                                                                (some (j5, false, ((data6.set j5.toNat e21).set a6.toNat e22))))
                                                                                else none))
                                                                                else none))
                                                                                else none))
                                                                                else none)
                                                                                else
                                                                                (if 0 ≤ j5 ∧ j5 < (data6.length : Int) then
                                                                                (Option.bind (data6[j5.toNat]?) fun (e25 : Int × (List ((List UInt8) × (List UInt8))) × (List ((List UInt8) × Int))) =>
                                                                                (if 0 ≤ i5 ∧ i5 < (data6.length : Int) then
                                                                                (Option.bind (data6[i5.toNat]?) fun (e26 : Int × (List ((List UInt8) × (List UInt8))) × (List ((List UInt8) × Int))) =>
                                                                                (if 0 ≤ i5 ∧ i5 < (data6.length : Int) then
                                                                                (Option.bind (data6[i5.toNat]?) fun (e27 : Int × (List ((List UInt8) × (List UInt8))) × (List ((List UInt8) × Int))) =>
                                                                                (if 0 ≤ j5 ∧ j5 < ((data6.set i5.toNat e25).length : Int) then
                                                                                (Option.bind ((data6.set i5.toNat e25)[j5.toNat]?) fun (e28 : Int × (List ((List UInt8) × (List UInt8))) × (List ((List UInt8) × Int))) =>
                                                                                (if fits (i5 + 1) then (if fits (j5 - 1) then (go3 (((data6.set i5.toNat e25).set j5.toNat e26), a6, cmp6, (i5 + 1), (j5 - 1))) else none) else none))
                                                                                else none))
                                                                                else none))
                                                                                else none))
                                                                                else none)))))
                                                                                else none))
                                                                                else none)
                                                                                else
                                                                                (bif (decide (j5 < i5)) then
                                                                                (if 0 ≤ a6 ∧ a6 < (data6.length : Int) then
                                                                                (Option.bind (data6[a6.toNat]?) fun (e29 : Int × (List ((List UInt8) × (List UInt8))) × (List ((List UInt8) × Int))) =>
                                                                                (if 0 ≤ j5 ∧ j5 < (data6.length : Int) then
                                                                                (Option.bind (data6[j5.toNat]?) fun (e30 : Int × (List ((List UInt8) × (List UInt8))) × (List ((List UInt8) × Int))) =>
                                                                                (if 0 ≤ j5 ∧ j5 < (data6.length : Int) then
                                                                                (Option.bind (data6[j5.toNat]?) fun (e31 : Int × (List ((List UInt8) × (List UInt8))) × (List ((List UInt8) × Int))) =>
                                                                                (if 0 ≤ a6 ∧ a6 < ((data6.set j5.toNat e29).length : Int) then
                                                                                (Option.bind ((data6.set j5.toNat e29)[a6.toNat]?) fun (e32 : Int × (List ((List UInt8) × (List UInt8))) × (List ((List UInt8) × Int))) =>
                                                                                (some (j5, false, ((data6.set j5.toNat e29).set a6.toNat e30))))
                                                                                else none))
                                                                                else none))
                                                                                else none))
                                                                                else none)
                                                                                else
                                                                                (if 0 ≤ j5 ∧ j5 < (data6.length : Int) then
                                                                                (Option.bind (data6[j5.toNat]?) fun (e33 : Int × (List ((List UInt8) × (List UInt8))) × (List ((List UInt8) × Int))) =>
                                                                                (if 0 ≤ i5 ∧ i5 < (data6.length : Int) then
                                                                                (Option.bind (data6[i5.toNat]?) fun (e34 : Int × (List ((List UInt8) × (List UInt8))) × (List ((List UInt8) × Int))) =>
                                                                                (if 0 ≤ i5 ∧ i5 < (data6.length : Int) then
                                                                                (Option.bind (data6[i5.toNat]?) fun (e35 : Int × (List ((List UInt8) × (List UInt8))) × (List ((List UInt8) × Int))) =>
                                                                                (if 0 ≤ j5 ∧ j5 < ((data6.set i5.toNat e33).length : Int) then
                                                                                (Option.bind ((data6.set i5.toNat e33)[j5.toNat]?) fun (e36 : Int × (List ((List UInt8) × (List UInt8))) × (List ((List UInt8) × Int))) =>
                                                                                (if fits (i5 + 1) then (if fits (j5 - 1) then (go3 (((data6.set i5.toNat e33).set j5.toNat e34), a6, cmp6, (i5 + 1), (j5 - 1))) else none) else none))
                                                                                else none))
                                                                                else none))
                                                                                else none))
                                                                                else none)))) N (data5, a5, cmp5, i4, j4)))))
                                                                                else none))
                                                                                else none)
                                                                                else
                                                                                (iter (fun (go6 : ((List (Int × (List ((List UInt8) × (List UInt8))) × (List ((List UInt8) × Int)))) × Int × (List ((List UInt8) × Bool)) × Int × Int) → Option (Int × Bool × (List (Int × (List ((List UInt8) × (List UInt8))) × (List ((List UInt8) × Int)))))) (g : (List (Int × (List ((List UInt8) × (List UInt8))) × (List ((List UInt8) × Int)))) × Int × (List ((List UInt8) × Bool)) × Int × Int) => 
                                                                                match g with
                                                                                | (data7, a7, cmp7, i6, j6) =>
                                                                                (bif (decide (i6 ≤ j6)) then
                                                                                (if 0 ≤ j6 ∧ j6 < (data7.length : Int) then
                                                                                (Option.bind (data7[j6.toNat]?) fun (e37 : Int × (List ((List UInt8) × (List UInt8))) × (List ((List UInt8) × Int))) =>
                                                                                (if 0 ≤ a7 ∧ a7 < (data7.length : Int) then
                                                                                (Option.bind (data7[a7.toNat]?) fun (e38 : Int × (List ((List UInt8) × (List UInt8))) × (List ((List UInt8) × Int))) =>
                                                                                (Option.bind (i_SortOf_1_m N e37.1 e37.2.1 e37.2.2 e38.1 e38.2.1 e38.2.2 cmp7) fun (r5 : Int) =>
                                                                                (bif (!(decide (r5 < 0))) then
                                                                                (if fits (j6 - 1) then (go6 (data7, a7, cmp7, i6, (j6 - 1))) else none)
                                                                                else
                                                                                (bif (decide (j6 < i6)) then
                                                                                (if 0 ≤ a7 ∧ a7 < (data7.length : Int) then
                                                                                (Option.bind (data7[a7.toNat]?) fun (e39 : Int × (List ((List UInt8) × (List UInt8))) × (List ((List UInt8) × Int))) =>
                                                                                (if 0 ≤ j6 ∧ j6 < (data7.length : Int) then
                                                                                (Option.bind (data7[j6.toNat]?) fun (e40 : Int × (List ((List UInt8) × (List UInt8))) × (List ((List UInt8) × Int))) =>
                                                                                (if 0 ≤ j6 ∧ j6 < (data7.length : Int) then
                                                                                (Option.bind (data7[j6.toNat]?) fun (e41 : Int × (List ((List UInt8) × (List UInt8))) × (List ((List UInt8) × Int))) =>
                                                                                (if 0 ≤ a7 ∧ a7 < ((data7.set j6.toNat e39).length : Int) then
                                                                                (Option.bind ((data7.set j6.toNat e39)[a7.toNat]?) fun (e42 : Int × (List ((List UInt8) × (List UInt8))) × (List ((List UInt8) × Int))) =>
                                                                                (some (j6, false, ((data7.set j6.toNat e39).set a7.toNat e40))))
                                                                                else none))
                                                                                else none))
                                                                                else none))
                                                                                else none)
                                                                                else
                                                                                (if 0 ≤ j6 ∧ j6 < (data7.length : Int) then
                                                                                (Option.bind (data7[j6.toNat]?) fun (e43 : Int × (List ((List UInt8) × (List UInt8))) × (List ((List UInt8) × Int))) =>
                                                                                (if 0 ≤ i6 ∧ i6 < (data7.length : Int) then
                                                                                (Option.bind (data7[i6.toNat]?) fun (e44 : Int × (List ((List UInt8) × (List UInt8))) × (List ((List UInt8) × Int))) =>
                                                                                (if 0 ≤ i6 ∧ i6 < (data7.length : Int) then
                                                                                (Option.bind (data7[i6.toNat]?) fun (e45 : Int × (List ((List UInt8) × (List UInt8))) × (List ((List UInt8) × Int))) =>
                                                                                (if 0 ≤ j6 ∧ j6 < ((data7.set i6.toNat e43).length : Int) then
                                                                                (Option.bind ((data7.set i6.toNat e43)[j6.toNat]?) fun (e46 : Int × (List ((List UInt8) × (List UInt8))) × (List ((List UInt8) × Int))) =>
                                                                                (if fits (i6 + 1) then (if fits (j6 - 1) then (go3 (((data7.set i6.toNat e43).set j6.toNat e44), a7, cmp7, (i6 + 1), (j6 - 1))) else none) else none))
                                                                                else none))
                                                                                else none))
                                                                                else none))
                                                                                else none)))))
                                                                                else none))
                                                                                else none)
                                                                                else
                                                                                (bif (decide (j6 < i6)) then
                                                                                (if 0 ≤ a7 ∧ a7 < (data7.length : Int) then
                                                                                (Option.bind (data7[a7.toNat]?) fun (e47 : Int × (List ((List UInt8) × (List UInt8))) × (List ((List UInt8) × Int))) =>
                                                                                (if 0 ≤ j6 ∧ j6 < (data7.length : Int) then
                                                                                (Option.bind (data7[j6.toNat]?) fun (e48 : Int × (List ((List UInt8) × (List UInt8))) × (List ((List UInt8) × Int))) =>
                                                                                (if 0 ≤ j6 ∧ j6 < (data7.length : Int) then
                                                                                (Option.bind (data7[j6.toNat]?) fun (e49 : Int × (List ((List UInt8) × (List UInt8))) × (List ((List UInt8) × Int))) =>
                                                                                (if 0 ≤ a7 ∧ a7 < ((data7.set j6.toNat e47).length : Int) then
                                                                                (Option.bind ((data7.set j6.toNat e47)[a7.toNat]?) fun (e50 : Int × (List ((List UInt8) × (List UInt8))) × (List ((List UInt8) × Int))) =>
                                                                                (some (j6, false, ((data7.set j6.toNat e47).set a7.toNat e48))))
                                                                                else none))
                                                                                else none))
                                                                                else none))
                                                                                else none)
                                                                                else
                                                                                (if 0 ≤ j6 ∧ j6 < (data7.length : Int) then
                                                                                (Option.bind (data7[j6.toNat]?) fun (e51 : Int × (List ((List UInt8) × (List UInt8))) × (List ((List UInt8) × Int))) =>
                                                                                (if 0 ≤ i6 ∧ i6 < (data7.length : Int) then
                                                                                (Option.bind (data7[i6.toNat]?) fun (e52 : Int × (List ((List UInt8) × (List UInt8))) × (List ((List UInt8) × Int))) =>
                                                                                (if 0 ≤ i6 ∧ i6 < (data7.length : Int) then
                                                                                (Option.bind (data7[i6.toNat]?) fun (e53 : Int × (List ((List UInt8) × (List UInt8))) × (List ((List UInt8) × Int))) =>
                                                                                (if 0 ≤ j6 ∧ j6 < ((data7.set i6.toNat e51).length : Int) then
                                                                                (Option.bind ((data7.set i6.toNat e51)[j6.toNat]?) fun (e54 : Int × (List ((List UInt8) × (List UInt8))) × (List ((List UInt8) × Int))) =>
                                                                                (if fits (i6 + 1) then (if fits (j6 - 1) then (go3 (((data7.set i6.toNat e51).set j6.toNat e52), a7, cmp7, (i6 + 1), (j6 - 1))) else none) else none))
                                                                                else none))
                                                                                else none))
                                                                                else none))
                                                                                else none)))) N (data5, a5, cmp5, i4, j4)))) N (data4, a4, cmp4, i3, j3))) N (((data3.set i2.toNat e13).set j2.toNat e14), a3, cmp3, (i2 + 1), (j2 - 1))) else none) else none))
                                                                          else none))
                                                                      else none))
                                                                  else none))
                                                              else none)))))
                                                    else none))
                                                else none)
                                              else
                                              (bif (decide (j2 < i2)) then
                                                (if 0 ≤ a3 ∧ a3 < (data3.length : Int) then
                                                  (Option.bind (data3[a3.toNat]?) fun (e55 : Int × (List ((List UInt8) × (List UInt8))) × (List ((List UInt8) × Int))) =>
                                                    (if 0 ≤ j2 ∧ j2 < (data3.length : Int) then
                                                      (Option.bind (data3[j2.toNat]?) fun (e56 : Int × (List ((List UInt8) × (List UInt8))) × (List ((List UInt8) × Int))) =>
                                                        (if 0 ≤ j2 ∧ j2 < (data3.length : Int) then
                                                          (Option.bind (data3[j2.toNat]?) fun (e57 : Int × (List ((List UInt8) × (List UInt8))) × (List ((List UInt8) × Int))) =>
                                                            (if 0 ≤ a3 ∧ a3 < ((data3.set j2.toNat e55).length : Int) then
                                                              (Option.bind ((data3.set j2.toNat e55)[a3.toNat]?) fun (e58 : Int × (List ((List UInt8) × (List UInt8))) × (List ((List UInt8) × Int))) =>
                                                                (some (j2, true, ((data3.set j2.toNat e55).set a3.toNat e56))))
                                                              else none))
                                                          else none))
                                                      else none))
                                                  else none)
                                                else
                                                (if 0 ≤ j2 ∧ j2 < (data3.length : Int) then
                                                  (Option.bind (data3[j2.toNat]?) fun (e59 : Int × (List ((List UInt8) × (List UInt8))) × (List ((List UInt8) × Int))) =>
                                                    (if 0 ≤ i2 ∧ i2 < (data3.length : Int) then
                                                      (Option.bind (data3[i2.toNat]?) fun (e60 : Int × (List ((List UInt8) × (List UInt8))) × (List ((List UInt8) × Int))) =>
                                                        (if 0 ≤ i2 ∧ i2 < (data3.length : Int) then
                                                          (Option.bind (data3[i2.toNat]?) fun (e61 : Int × (List ((List UInt8) × (List UInt8))) × (List ((List UInt8) × Int))) =>
                                                            (if 0 ≤ j2 ∧ j2 < ((data3.set i2.toNat e59).length : Int) then
                                                              (Option.bind ((data3.set i2.toNat e59)[j2.toNat]?) fun (e62 : Int × (List ((List UInt8) × (List UInt8))) × (List ((List UInt8) × Int))) =>
                                                                (if fits (i2 + 1) then (if fits (j2 - 1) then (iter (fun (go7 : ((List (Int × (List ((List UInt8) × (List UInt8))) × (List ((List UInt8) × Int)))) × Int × (List ((List UInt8) × Bool)) × Int × Int) → Option (Int × Bool × (List (Int × (List ((List UInt8) × (List UInt8))) × (List ((List UInt8) × Int)))))) (g : (List (Int × (List ((List UInt8) × (List UInt8))) × (List ((List UInt8) × Int)))) × Int × (List ((List UInt8) × Bool)) × Int × Int) => 
                                                                        match g with
                                                                        | (data8, a8, cmp8, i7, j7) =>
                                                                        (iter (fun (go8 : ((List (Int × (List ((List UInt8) × (List UInt8))) × (List ((List UInt8) × Int)))) × Int × (List ((List UInt8) × Bool)) × Int × Int) → Option (Int × Bool × (List (Int × (List ((List UInt8) × (List UInt8))) × (List ((List UInt8) × Int)))))) (g : (List (Int × (List ((List UInt8) × (List UInt8))) × (List ((List UInt8) × Int)))) × Int × (List ((List UInt8) × Bool)) × Int × Int) => 
                                                                            match g with
                                                                            | (data9, a9, cmp9, i8, j8) =>
                                                                            (bif (decide (i8 ≤ j8)) then
                                                                              (if 0 ≤ i8 ∧ i8 < (data9.length : Int) then
                                                                                (Option.bind (data9[i8.toNat]?) fun (e63 : Int × (List ((List UInt8) × (List UInt8))) × (List ((List UInt8) × Int))) =>
                                                                                (if 0 ≤ a9 ∧ a9 < (data9.length : Int) then
                                                                                (Option.bind (data9[a9.toNat]?) fun (e64 : Int × (List ((List UInt8) × (List UInt8))) × (List ((List UInt8) × Int))) =>
                                                                                (Option.bind (i_SortOf_1_m N e63.1 e63.2.1 e63.2.2 e64.1 e64.2.1 e64.2.2 cmp9) fun (r6 : Int) =>
                                                                                (bif (decide (r6 < 0)) then
                                                                                (if fits (i8 + 1) then (go8 (data9, a9, cmp9, (i8 + 1), j8)) else none)
                                                                                else
                                                                                (iter (fun (go9 : ((List (Int × (List ((List UInt8) × (List UInt8))) × (List ((List UInt8) × Int)))) × Int × (List ((List UInt8) × Bool)) × Int × Int) → Option (Int × Bool × (List (Int × (List ((List UInt8) × (List UInt8))) × (List ((List UInt8) × Int)))))) (g : (List (Int × (List ((List UInt8) × (List UInt8))) × (List ((List UInt8) × Int)))) × Int × (List ((List UInt8) × Bool)) × Int × Int) => 
                                                                                match g with
                                                                                | (data10, a10, cmp10, i9, j9) =>
                                                                                (bif (decide (i9 ≤ j9)) then
                                                                                (if 0 ≤ j9 ∧ j9 < (data10.length : Int) then
                                                                                (Option.bind (data10[j9.toNat]?) fun (e65 : Int × (List ((List UInt8) × (List UInt8))) × (List ((List UInt8) × Int))) =>
                                                                                (if 0 ≤ a10 ∧ a10 < (data10.length : Int) then
                                                                                (Option.bind (data10[a10.toNat]?) fun (e66 : Int × (List ((List UInt8) × (List UInt8))) × (List ((List UInt8) × Int))) =>
                                                                                (Option.bind (i_SortOf_1_m N e65.1 e65.2.1 e65.2.2 e66.1 e66.2.1 e66.2.2 cmp10) fun (r7 : Int) =>
                                                                                (bif (!(decide (r7 < 0))) then
                                                                                (if fits (j9 - 1) then (go9 (data10, a10, cmp10, i9, (j9 - 1))) else none)
                                                                                else
                                                                                (bif (decide (j9 < i9)) then
                                                                                (if 0 ≤ a10 ∧ a10 < (data10.length : Int) then
                                                                                (Option.bind (data10[a10.toNat]?) fun (e67 : Int × (List ((List UInt8) × (List UInt8))) × (List ((List UInt8) × Int))) =>
                                                                                (if 0 ≤ j9 ∧ j9 < (data10.length : Int) then
                                                                                (Option.bind (data10[j9.toNat]?) fun (e68 : Int × (List ((List UInt8) × (List UInt8))) × (List ((List UInt8) × Int))) =>
                                                                                (if 0 ≤ j9 ∧ j9 < (data10.length : Int) then
                                                                                (Option.bind (data10[j9.toNat]?) fun (e69 : Int × (List ((List UInt8) × (List UInt8))) × (List ((List UInt8) × Int))) =>
                                                                                (if 0 ≤ a10 ∧ a10 < ((data10.set j9.toNat e67).length : Int) then
                                                                                (Option.bind ((data10.set j9.toNat e67)[a10.toNat]?) fun (e70 : Int × (List ((List UInt8) × (List UInt8))) × (List ((List UInt8) × Int))) =>
                                                                                (some (j9, false, ((data10.set j9.toNat e67).set a10.toNat e68))))
                                                                                else none))
                                                                                else none))
                                                                                else none))
                                                                                else none)
                                                                                else
                                                                                (if 0 ≤ j9 ∧ j9 < (data10.length : Int) then
                                                                                (Option.bind (data10[j9.toNat]?) fun (e71 : Int × (List ((List UInt8) × (List UInt8))) × (List ((List UInt8) × Int))) =>
                                                                                (if 0 ≤ i9 ∧ i9 < (data10.length : Int) then
                                                                                (Option.bind (data10[i9.toNat]?) fun (e72 : Int × (List ((List UInt8) × (List UInt8))) × (List ((List UInt8) × Int))) =>
                                                                                (if 0 ≤ i9 ∧ i9 < (data10.length : Int) then
                                                                                (Option.bind (data10[i9.toNat]?) fun (e73 : Int × (List ((List UInt8) × (List UInt8))) × (List ((List UInt8) × Int))) =>
                                                                                (if 0 ≤ j9 ∧ j9 < ((data10.set i9.toNat e71).length : Int) then
                                                                                (Option.bind ((data10.set i9.toNat e71)[j9.toNat]?) fun (e74 : Int × (List ((List UInt8) × (List UInt8))) × (List ((List UInt8) × Int))) =>
                                                                                (if fits (i9 + 1) then (if fits (j9 - 1) then (go7 (((data10.set i9.toNat e71).set j9.toNat e72), a10, cmp10, (i9 + 1), (j9 - 1))) else none) else none))
                                                                                else none))
                                                                                else none))
                                                                                else none))
                                                                                else none)))))
                                                                                else none))
                                                                                else none)
                                                                                else
                                                                                (bif (decide (j9 < i9)) then
                                                                                (if 0 ≤ a10 ∧ a10 < (data10.length : Int) then
                                                                                (Option.bind (data10[a10.toNat]?) fun (e75 : Int × (List ((List UInt8) × (List UInt8))) × (List ((List UInt8) × Int))) =>
                                                                                (if 0 ≤ j9 ∧ j9 < (data10.length : Int) then
                                                                                (Option.bind (data10[j9.toNat]?) fun (e76 : Int × (List ((List UInt8) × (List UInt8))) × (List ((List UInt8) × Int))) =>
                                                                                (if 0 ≤ j9 ∧ j9 < (data10.length : Int) then
                                                                                (Option.bind (data10[j9.toNat]?) fun (e77 : Int × (List ((List UInt8) × (List UInt8))) × (List ((List UInt8) × Int))) =>
                                                                                (if 0 ≤ a10 ∧ a10 < ((data10.set j9.toNat e75).length : Int) then
                                                                                (Option.bind ((data10.set j9.toNat e75)[a10.toNat]?) fun (e78 : Int × (List ((List UInt8) × (List UInt8))) × (List ((List UInt8) × Int))) =>
                                                                                (some (j9, false, ((data10.set j9.toNat e75).set a10.toNat e76))))
                                                                                else none))
                                                                                else none))
                                                                                else none))
                                                                                else none)
                                                                                else
                                                                                (if 0 ≤ j9 ∧ j9 < (data10.length : Int) then
                                                                                (Option.bind (data10[j9.toNat]?) fun (e79 : Int × (List ((List UInt8) × (List UInt8))) × (List ((List UInt8) × Int))) =>
                                                                                (if 0 ≤ i9 ∧ i9 < (data10.length : Int) then
                                                                                (Option.bind (data10[i9.toNat]?) fun (e80 : Int × (List ((List UInt8) × (List UInt8))) × (List ((List UInt8) × Int))) =>
                                                                                (if 0 ≤ i9 ∧ i9 < (data10.length : Int) then
                                                                                (Option.bind (data10[i9.toNat]?) fun (e81 : Int × (List ((List UInt8) × (List UInt8))) × (List ((List UInt8) × Int))) =>
                                                                                (if 0 ≤ j9 ∧ j9 < ((data10.set i9.toNat e79).length : Int) then
                                                                                (Option.bind ((data10.set i9.toNat e79)[j9.toNat]?) fun (e82 : Int × (List ((List UInt8) × (List UInt8))) × (List ((List UInt8) × Int))) =>
                                                                                (if fits (i9 + 1) then (if fits (j9 - 1) then (go7 (((data10.set i9.toNat e79).set j9.toNat e80), a10, cmp10, (i9 + 1), (j9 - 1))) else none) else none))
                                                                                else none))
                                                                                else none))
                                                                                else none))
                                                                                else none)))) N (data9, a9, cmp9, i8, j8)))))
                                                                                else none))
                                                                                else none)
                                                                              else
                                                                              (iter (fun (go10 : ((List (Int × (List ((List UInt8) × (List UInt8))) × (List ((List UInt8) × Int)))) × Int × (List ((List UInt8) × Bool)) × Int × Int) → Option (Int × Bool × (List (Int × (List ((List UInt8) × (List UInt8))) × (List ((List UInt8) × Int)))))) (g : (List (Int × (List ((List UInt8) × (List UInt8))) × (List ((List UInt8) × Int)))) × Int × (List ((List UInt8) × Bool)) × Int × Int) => 
                                                                                match g with
                                                                                | (data11, a11, cmp11, i10, j10) =>
                                                                                (bif (decide (i10 ≤ j10)) then
                                                                                (if 0 ≤ j10 ∧ j10 < (data11.length : Int) then
                                                                                (Option.bind (data11[j10.toNat]?) fun (e83 : Int × (List ((List UInt8) × (List UInt8))) × (List ((List UInt8) × Int))) =>
                                                                                (if 0 ≤ a11 ∧ a11 < (data11.length : Int) then
                                                                                (Option.bind (data11[a11.toNat]?) fun (e84 : Int × (List ((List UInt8) × (List UInt8))) × (List ((List UInt8) × Int))) =>
                                                                                (Option.bind (i_SortOf_1_m N e83.1 e83.2.1 e83.2.2 e84.1 e84.2.1 e84.2.2 cmp11) fun (r8 : Int) =>
                                                                                (bif (!(decide (r8 < 0))) then
                                                                                (if fits (j10 - 1) then (go10 (data11, a11, cmp11, i10, (j10 - 1))) else none)
                                                                                else
                                                                                (bif (decide (j10 < i10)) then
                                                                                (if 0 ≤ a11 ∧ a11 < (data11.length : Int) then
                                                                                (Option.bind (data11[a11.toNat]?) fun (e85 : Int × (List ((List UInt8) × (List UInt8))) × (List ((List UInt8) × Int))) =>
                                                                                (if 0 ≤ j10 ∧ j10 < (data11.length : Int) then
                                                                                (Option.bind (data11[j10.toNat]?) fun (e86 : Int × (List ((List UInt8) × (List UInt8))) × (List ((List UInt8) × Int))) =>
                                                                                (if 0 ≤ j10 ∧ j10 < (data11.length : Int) then
                                                                                (Option.bind (data11[j10.toNat]?) fun (e87 : Int × (List ((List UInt8) × (List UInt8))) × (List ((List UInt8) × Int))) =>
                                                                                (if 0 ≤ a11 ∧ a11 < ((data11.set j10.toNat e85).length : Int) then
                                                                                (Option.bind ((data11.set j10.toNat e85)[a11.toNat]?) fun (e88 : Int × (List ((List UInt8) × (List UInt8))) × (List ((List UInt8) × Int))) =>
                                                                                (some (j10, false, ((data11.set j10.toNat e85).set a11.toNat e86))))
                                                                                else none))
                                                                                else none))
                                                                                else none))
                                                                                else none)
                                                                                else
                                                                                (if 0 ≤ j10 ∧ j10 < (data11.length : Int) then
                                                                                (Option.bind (data11[j10.toNat]?) fun (e89 : Int × (List ((List UInt8) × (List UInt8))) × (List ((List UInt8) × Int))) =>
                                                                                (if 0 ≤ i10 ∧ i10 < (data11.length : Int) then
                                                                                (Option.bind (data11[i10.toNat]?) fun (e90 : Int × (List ((List UInt8) × (List UInt8))) × (List ((List UInt8) × Int))) =>
                                                                                (if 0 ≤ i10 ∧ i10 < (data11.length : Int) then
                                                                                (Option.bind (data11[i10.toNat]?) fun (e91 : Int × (List ((List UInt8) × (List UInt8))) × (List ((List UInt8) × Int))) =>
                                                                                (if 0 ≤ j10 ∧ j10 < ((data11.set i10.toNat e89).length : Int) then
                                                                                (Option.bind ((data11.set i10.toNat e89)[j10.toNat]?) fun (e92 : Int × (List ((List UInt8) × (List UInt8))) × (List ((List UInt8) × Int))) =>
                                                                                (if fits (i10 + 1) then (if fits (j10 - 1) then (go7 (((data11.set i10.toNat e89).set j10.toNat e90), a11, cmp11, (i10 + 1), (j10 - 1))) else none) else none))
                                                                                else none))
                                                                                else none))
                                                                                else none))
                                                                                else none)))))
                                                                                else none))
                                                                                else none)
                                                                                else
                                                                                (bif (decide (j10 < i10)) then
                                                                                (if 0 ≤ a11 ∧ a11 < (data11.length : Int) then
                                                                                (Option.bind (data11[a11.toNat]?) fun (e93 : Int × (List ((List UInt8) × (List UInt8))) × (List ((List UInt8) × Int))) =>
                                                                                (if 0 ≤ j10 ∧ j10 < (data11.length : Int) then
                                                                                (Option.bind (data11[j10.toNat]?) fun (e94 : Int × (List ((List UInt8) × (List UInt8))) × (List ((List UInt8) × Int))) =>
                                                                                (if 0 ≤ j10 ∧ j10 < (data11.length : Int) then
                                                                                (Option.bind (data11[j10.toNat]?) fun (e95 : Int × (List ((List UInt8) × (List UInt8))) × (List ((List UInt8) × Int))) =>
                                                                                (if 0 ≤ a11 ∧ a11 < ((data11.set j10.toNat e93).length : Int) then
                                                                                (Option.bind ((data11.set j10.toNat e93)[a11.toNat]?) fun (e96 : Int × (List ((List UInt8) × (List UInt8))) × (List ((List UInt8) × Int))) =>
                                                                                (some (j10, false, ((data11.set j10.toNat e93).set a11.toNat e94))))
                                                                                else none))
                                                                                else none))
                                                                                else none))
                                                                                else none)
                                                                                else
                                                                                (if 0 ≤ j10 ∧ j10 < (data11.length : Int) then
                                                                                (Option.bind (data11[j10.toNat]?) fun (e97 : Int × (List ((List UInt8) × (List UInt8))) × (List ((List UInt8) × Int))) =>
                                                                                (if 0 ≤ i10 ∧ i10 < (data11.length : Int) then
                                                                                (Option.bind (data11[i10.toNat]?) fun (e98 : Int × (List ((List UInt8) × (List UInt8))) × (List ((List UInt8) × Int))) =>
                                                                                (if 0 ≤ i10 ∧ i10 < (data11.length : Int) then
                                                                                (Option.bind (data11[i10.toNat]?) fun (e99 : Int × (List ((List UInt8) × (List UInt8))) × (List ((List UInt8) × Int))) =>
                                                                                (if 0 ≤ j10 ∧ j10 < ((data11.set i10.toNat e97).length : Int) then
                                                                                (Option.bind ((data11.set i10.toNat e97)[j10.toNat]?) fun (e100 : Int × (List ((List UInt8) × (List UInt8))) × (List ((List UInt8) × Int))) =>
                                                                                (if fits (i10 + 1) then (if fits (j10 - 1) then (go7 (((data11.set i10.toNat e97).set j10.toNat e98), a11, cmp11, (i10 + 1), (j10 - 1))) else none) else none))
                                                                                else none))
                                                                                else none))
                                                                                else none))
                                                                                else none)))) N (data9, a9, cmp9, i8, j8)))) N (data8, a8, cmp8, i7, j7))) N (((data3.set i2.toNat e59).set j2.toNat e60), a3, cmp3, (i2 + 1), (j2 - 1))) else none) else none))
                                                              else none))
                                                          else none))
                                                      else none))
                                                  else none)))) N (data2, a2, cmp2, i, j)))))
                                  else none))
                              else none)
                            else
                            (iter (fun (go11 : ((List (Int × (List ((List UInt8) × (List UInt8))) × (List ((List UInt8) × Int)))) × Int × (List ((List UInt8) × Bool)) × Int × Int) → Option (Int × Bool × (List (Int × (List ((List UInt8) × (List UInt8))) × (List ((List UInt8) × Int)))))) (g : (List (Int × (List ((List UInt8) × (List UInt8))) × (List ((List UInt8) × Int)))) × Int × (List ((List UInt8) × Bool)) × Int × Int) => 
                                match g with
                                | (data12, a12, cmp12, i11, j11) =>
                                (bif (decide (i11 ≤ j11)) then
                                  (if 0 ≤ j11 ∧ j11 < (data12.length : Int) then
                                    (Option.bind (data12[j11.toNat]?) fun (e101 : Int × (List ((List UInt8) × (List UInt8))) × (List ((List UInt8) × Int))) =>
                                      (if 0 ≤ a12 ∧ a12 < (data12.length : Int) then
                                        (Option.bind (data12[a12.toNat]?) fun (e102 : Int × (List ((List UInt8) × (List UInt8))) × (List ((List UInt8) × Int))) =>
                                          (Option.bind (i_SortOf_1_m N e101.1 e101.2.1 e101.2.2 e102.1 e102.2.1 e102.2.2 cmp12) fun (r9 : Int) =>
                                            (bif (!(decide (r9 < 0))) then
                                              (if fits (j11 - 1) then (go11 (data12, a12, cmp12, i11, (j11 - 1))) else none)
                                              else
                                              (bif (decide (j11 < i11)) then
                                                (if 0 ≤ a12 ∧ a12 < (data12.length : Int) then
                                                  (Option.bind (data12[a12.toNat]?) fun (e103 : Int × (List ((List UInt8) × (List UInt8))) × (List ((List UInt8) × Int))) =>
                                                    (if 0 ≤ j11 ∧ j11 < (data12.length : Int) then
                                                      (Option.bind (data12[j11.toNat]?) fun (e104 : Int × (List ((List UInt8) × (List UInt8))) × (List ((List UInt8) × Int))) =>
                                                        (if 0 ≤ j11 ∧ j11 < (data12.length : Int) then
                                                          (Option.bind (data12[j11.toNat]?) fun (e105 : Int × (List ((List UInt8) × (List UInt8))) × (List ((List UInt8) × Int))) =>
                                                            (if 0 ≤ a12 ∧ a12 < ((data12.set j11.toNat e103).length : Int) then
                                                              (Option.bind ((data12.set j11.toNat e103)[a12.toNat]?) fun (e106 : Int × (List ((List UInt8) × (List UInt8))) × (List ((List UInt8) × Int))) =>
                                                                (some (j11, true, ((data12.set j11.toNat e103).set a12.toNat e104))))
                                                              else none))
                                                          else none))
                                                      else none))
                                                  else none)
                                                else
                                                (if 0 ≤ j11 ∧ j11 < (data12.length : Int) then
                                                  (Option.bind (data12[j11.toNat]?) fun (e107 : Int × (List ((List UInt8) × (List UInt8))) × (List ((List UInt8) × Int))) =>
                                                    (if 0 ≤ i11 ∧ i11 < (data12.length : Int) then
                                                      (Option.bind (data12[i11.toNat]?) fun (e108 : Int × (List ((List UInt8) × (List UInt8))) × (List ((List UInt8) × Int))) =>
                                                        (if 0 ≤ i11 ∧ i11 < (data12.length : Int) then
                                                          (Option.bind (data12[i11.toNat]?) fun (e109 : Int × (List ((List UInt8) × (List UInt8))) × (List ((List UInt8) × Int))) =>
                                                            (if 0 ≤ j11 ∧ j11 < ((data12.set i11.toNat e107).length : Int) then
                                                              (Option.bind ((data12.set i11.toNat e107)[j11.toNat]?) fun (e110 : Int × (List ((List UInt8) × (List UInt8))) × (List ((List UInt8) × Int))) =>
                                                                (if fits (i11 + 1) then (if fits (j11 - 1) then (iter (fun (go12 : ((List (Int × (List ((List UInt8) × (List UInt8))) × (List ((List UInt8) × Int)))) × Int × (List ((List UInt8) × Bool)) × Int × Int) → Option (Int × Bool × (List (Int × (List ((List UInt8) × (List UInt8))) × (List ((List UInt8) × Int)))))) (g : (List (Int × (List ((List UInt8) × (List UInt8))) × (List ((List UInt8) × Int)))) × Int × (List ((List UInt8) × Bool)) × Int × Int) => 
                                                                        match g with
                                                                        | (data13, a13, cmp13, i12, j12) =>
                                                                        (iter (fun (go13 : ((List (Int × (List ((List UInt8) × (List UInt8))) × (List ((List UInt8) × Int)))) × Int × (List ((List UInt8) × Bool)) × Int × Int) → Option (Int × Bool × (List (Int × (List ((List UInt8) × (List UInt8))) × (List ((List UInt8) × Int)))))) (g : (List (Int × (List ((List UInt8) × (List UInt8))) × (List ((List UInt8) × Int)))) × Int × (List ((List UInt8) × Bool)) × Int × Int) => 
                                                                            match g with
                                                                            | (data14, a14, cmp14, i13, j13) =>
                                                                            (bif (decide (i13 ≤ j13)) then
                                                                              (if 0 ≤ i13 ∧ i13 < (data14.length : Int) then
                                                                                (Option.bind (data14[i13.toNat]?) fun (e111 : Int × (List ((List UInt8) × (List UInt8))) × (List ((List UInt8) × Int))) =>
                                                                                (if 0 ≤ a14 ∧ a14 < (data14.length : Int) then
                                                                                (Option.bind (data14[a14.toNat]?) fun (e112 : Int × (List ((List UInt8) × (List UInt8))) × (List ((List UInt8) × Int))) =>
                                                                                (Option.bind (i_SortOf_1_m N e111.1 e111.2.1 e111.2.2 e112.1 e112.2.1 e112.2.2 cmp14) fun (r10 : Int) =>
                                                                                (bif (decide (r10 < 0)) then
                                                                                (if fits (i13 + 1) then (go13 (data14, a14, cmp14, (i13 + 1), j13)) else none)
                                                                                else
                                                                                (iter (fun (go14 : ((List (Int × (List ((List UInt8) × (List UInt8))) × (List ((List UInt8) × Int)))) × Int × (List ((List UInt8) × Bool)) × Int × Int) → Option (Int × Bool × (List (Int × (List ((List UInt8) × (List UInt8))) × (List ((List UInt8) × Int)))))) (g : (List (Int × (List ((List UInt8) × (List UInt8))) × (List ((List UInt8) × Int)))) × Int × (List ((List UInt8) × Bool)) × Int × Int) => 
                                                                                match g with
                                                                                | (data15, a15, cmp15, i14, j14) =>
                                                                                (bif (decide (i14 ≤ j14)) then
                                                                                (if 0 ≤ j14 ∧ j14 < (data15.length : Int) then
                                                                                (Option.bind (data15[j14.toNat]?) fun (e113 : Int × (List ((List UInt8) × (List UInt8))) × (List ((List UInt8) × Int))) =>
                                                                                (if 0 ≤ a15 ∧ a15 < (data15.length : Int) then
                                                                                (Option.bind (data15[a15.toNat]?) fun (e114 : Int × (List ((List UInt8) × (List UInt8))) × (List ((List UInt8) × Int))) =>
                                                                                (Option.bind (i_SortOf_1_m N e113.1 e113.2.1 e113.2.2 e114.1 e114.2.1 e114.2.2 cmp15) fun (r11 : Int) =>
                                                                                (bif (!(decide (r11 < 0))) then
                                                                                (if fits (j14 - 1) then (go14 (data15, a15, cmp15, i14, (j14 - 1))) else none)
                                                                                else
                                                                                (bif (decide (j14 < i14)) then
                                                                                (if 0 ≤ a15 ∧ a15 < (data15.length : Int) then
                                                                                (Option.bind (data15[a15.toNat]?) fun (e115 : Int × (List ((List UInt8) × (List UInt8))) × (List ((List UInt8) × Int))) =>
                                                                                (if 0 ≤ j14 ∧ j14 < (data15.length : Int) then
                                                                                (Option.bind (data15[j14.toNat]?) fun (e116 : Int × (List ((List UInt8) × (List UInt8))) × (List ((List UInt8) × Int))) =>
                                                                                (if 0 ≤ j14 ∧ j14 < (data15.length : Int) then
                                                                                (Option.bind (data15[j14.toNat]?) fun (e117 : Int × (List ((List UInt8) × (List UInt8))) × (List ((List UInt8) × Int))) =>
                                                                                (if 0 ≤ a15 ∧ a15 < ((data15.set j14.toNat e115).length : Int) then
                                                                                (Option.bind ((data15.set j14.toNat e115)[a15.toNat]?) fun (e118 : Int × (List ((List UInt8) × (List UInt8))) × (List ((List UInt8) × Int))) =>
                                                                                (some (j14, false, ((data15.set j14.toNat e115).set a15.toNat e116))))
                                                                                else none))
                                                                                else none))
                                                                                else none))
                                                                                else none)
                                                                                else
                                                                                (if 0 ≤ j14 ∧ j14 < (data15.length : Int) then
                                                                                (Option.bind (data15[j14.toNat]?) fun (e119 : Int × (List ((List UInt8) × (List UInt8))) × (List ((List UInt8) × Int))) =>
                                                                                (if 0 ≤ i14 ∧ i14 < (data15.length : Int) then
                                                                                (Option.bind (data15[i14.toNat]?) fun (e120 : Int × (List ((List UInt8) × (List UInt8))) × (List ((List UInt8) × Int))) =>
                                                                                (if 0 ≤ i14 ∧ i14 < (data15.length : Int) then
                                                                                (Option.bind (data15[i14.toNat]?) fun (e121 : Int × (List ((List UInt8) × (List UInt8))) × (List ((List UInt8) × Int))) =>
                                                                                (if 0 ≤ j14 ∧ j14 < ((data15.set i14.toNat e119).length : Int) then
                                                                                (Option.bind ((data15.set i14.toNat e119)[j14.toNat]?) fun (e122 : Int × (List ((List UInt8) × (List UInt8))) × (List ((List UInt8) × Int))) =>
                                                                                (if fits (i14 + 1) then (if fits (j14 - 1) then (go12 (((data15.set i14.toNat e119).set j14.toNat e120), a15, cmp15, (i14 + 1), (j14 - 1))) else none) else none))
                                                                                else none))
                                                                                else none))
                                                                                else none))
                                                                                else none)))))
                                                                                else none))
                                                                                else none)
                                                                                else
                                                                                (bif (decide (j14 < i14)) then
                                                                                (if 0 ≤ a15 ∧ a15 < (data15.length : Int) then
                                                                                (Option.bind (data15[a15.toNat]?) fun (e123 : Int × (List ((List UInt8) × (List UInt8))) × (List ((List UInt8) × Int))) =>
                                                                                (if 0 ≤ j14 ∧ j14 < (data15.length : Int) then
                                                                                (Option.bind (data15[j14.toNat]?) fun (e124 : Int × (List ((List UInt8) × (List UInt8))) × (List ((List UInt8) × Int))) =>
                                                                                (if 0 ≤ j14 ∧ j14 < (data15.length : Int) then
                                                                                (Option.bind (data15[j14.toNat]?) fun (e125 : Int × (List ((List UInt8) × (List UInt8))) × (List ((List UInt8) × Int))) =>
                                                                                (if 0 ≤ a15 ∧ a15 < ((data15.set j14.toNat e123).length : Int) then
                                                                                (Option.bind ((data15.set j14.toNat e123)[a15.toNat]?) fun (e126 : Int × (List ((List UInt8) × (List UInt8))) × (List ((List UInt8) × Int))) =>
                                                                                (some (j14, false, ((data15.set j14.toNat e123).set a15.toNat e124))))
                                                                                else none))
                                                                                else none))
                                                                                else none))
                                                                                else none)
                                                                                else
                                                                                (if 0 ≤ j14 ∧ j14 < (data15.length : Int) then
                                                                                (Option.bind (data15[j14.toNat]?) fun (e127 : Int × (List ((List UInt8) × (List UInt8))) × (List ((List UInt8) × Int))) =>
                                                                                (if 0 ≤ i14 ∧ i14 < (data15.length : Int) then
                                                                                (Option.bind (data15[i14.toNat]?) fun (e128 : Int × (List ((List UInt8) × (List UInt8))) × (List ((List UInt8) × Int))) =>
                                                                                (if 0 ≤ i14 ∧ i14 < (data15.length : Int) then
                                                                                (Option.bind (data15[i14.toNat]?) fun (e129 : Int × (List ((List UInt8) × (List UInt8))) × (List ((List UInt8) × Int))) =>
                                                                                (if 0 ≤ j14 ∧ j14 < ((data15.set i14.toNat e127).length : Int) then
                                                                                (Option.bind ((data15.set i14.toNat e127)[j14.toNat]?) fun (e130 : Int × (List ((List UInt8) × (List UInt8))) × (List ((List UInt8) × Int))) =>
                                                                                (if fits (i14 + 1) then (if fits (j14 - 1) then (go12 (((data15.set i14.toNat e127).set j14.toNat e128), a15, cmp15, (i14 + 1), (j14 - 1))) else none) else none))
                                                                                else none))
                                                                                else none))
                                                                                else none))
                                                                                else none)))) N (data14, a14, cmp14, i13, j13)))))
                                                                                else none))
                                                                                else none)
                                                                              else
                                                                              (iter (fun (go15 : ((List (Int × (List ((List UInt8) × (List UInt8))) × (List ((List UInt8) × Int)))) × Int × (List ((List UInt8) × Bool)) × Int × Int) → Option (Int × Bool × (List (Int × (List ((List UInt8) × (List UInt8))) × (List ((List UInt8) × Int)))))) (g : (List (Int × (List ((List UInt8) × (List UInt8))) × (List ((List UInt8) × Int)))) × Int × (List ((List UInt8) × Bool)) × Int × Int) => 
                                                                                match g with
                                                                                | (data16, a16, cmp16, i15, j15) =>
                                                                                (bif (decide (i15 ≤ j15)) then
                                                                                (if 0 ≤ j15 ∧ j15 < (data16.length : Int) then
                                                                                (Option.bind (data16[j15.toNat]?) fun (e131 : Int × (List ((List UInt8) × (List UInt8))) × (List ((List UInt8) × Int))) =>
                                                                                (if 0 ≤ a16 ∧ a16 < (data16.length : Int) then
                                                                                (Option.bind (data16[a16.toNat]?) fun (e132 : Int × (List ((List UInt8) × (List UInt8))) × (List ((List UInt8) × Int))) =>
                                                                                (Option.bind (i_SortOf_1_m N e131.1 e131.2.1 e131.2.2 e132.1 e132.2.1 e132.2.2 cmp16) fun (r12 : Int) =>
                                                                                (bif (!(decide (r12 < 0))) then
                                                                                (if fits (j15 - 1) then (go15 (data16, a16, cmp16, i15, (j15 - 1))) else none)
                                                                                else
                                                                                (bif (decide (j15 < i15)) then
                                                                                (if 0 ≤ a16 ∧ a16 < (data16.length : Int) then
                                                                                (Option.bind (data16[a16.toNat]?) fun (e133 : Int × (List ((List UInt8) × (List UInt8))) × (List ((List UInt8) × Int))) =>
                                                                                (if 0 ≤ j15 ∧ j15 < (data16.length : Int) then
                                                                                (Option.bind (data16[j15.toNat]?) fun (e134 : Int × (List ((List UInt8) × (List UInt8))) × (List ((List UInt8) × Int))) =>
                                                                                (if 0 ≤ j15 ∧ j15 < (data16.length : Int) then
                                                                                (Option.bind (data16[j15.toNat]?) fun (e135 : Int × (List ((List UInt8) × (List UInt8))) × (List ((List UInt8) × Int))) =>
                                                                                (if 0 ≤ a16 ∧ a16 < ((data16.set j15.toNat e133).length : Int) then
                                                                                (Option.bind ((data16.set j15.toNat e133)[a16.toNat]?) fun (e136 : Int × (List ((List UInt8) × (List UInt8))) × (List ((List UInt8) × Int))) =>
                                                                                (some (j15, false, ((data16.set j15.toNat e133).set a16.toNat e134))))
                                                                                else none))
                                                                                else none))
                                                                                else none))
                                                                                else none)
                                                                                else
                                                                                (if 0 ≤ j15 ∧ j15 < (data16.length : Int) then
                                                                                (Option.bind (data16[j15.toNat]?) fun (e137 : Int × (List ((List UInt8) × (List UInt8))) × (List ((List UInt8) × Int))) =>
                                                                                (if 0 ≤ i15 ∧ i15 < (data16.length : Int) then
                                                                                (Option.bind (data16[i15.toNat]?) fun (e138 : Int × (List ((List UInt8) × (List UInt8))) × (List ((List UInt8) × Int))) =>
                                                                                (if 0 ≤ i15 ∧ i15 < (data16.length : Int) then
                                                                                (Option.bind (data16[i15.toNat]?) fun (e139 : Int × (List ((List UInt8) × (List UInt8))) × (List ((List UInt8) × Int))) =>
                                                                                (if 0 ≤ j15 ∧ j15 < ((data16.set i15.toNat e137).length : Int) then
                                                                                (Option.bind ((data16.set i15.toNat e137)[j15.toNat]?) fun (e140 : Int × (List ((List UInt8) × (List UInt8))) × (List ((List UInt8) × Int))) =>
                                                                                (if fits (i15 + 1) then (if fits (j15 - 1) then (go12 (((data16.set i15.toNat e137).set j15.toNat e138), a16, cmp16, (i15 + 1), (j15 - 1))) else none) else none))
                                                                                else none))
                                                                                else none))
                                                                                else none))
                                                                                else none)))))
                                                                                else none))
                                                                                else none)
                                                                                else
                                                                                (bif (decide (j15 < i15)) then
                                                                                (if 0 ≤ a16 ∧ a16 < (data16.length : Int) then
                                                                                (Option.bind (data16[a16.toNat]?) fun (e141 : Int × (List ((List UInt8) × (List UInt8))) × (List ((List UInt8) × Int))) =>
                                                                                (if 0 ≤ j15 ∧ j15 < (data16.length : Int) then
                                                                                (Option.bind (data16[j15.toNat]?) fun (e142 : Int × (List ((List UInt8) × (List UInt8))) × (List ((List UInt8) × Int))) =>
                                                                                (if 0 ≤ j15 ∧ j15 < (data16.length : Int) then
                                                                                (Option.bind (data16[j15.toNat]?) fun (e143 : Int × (List ((List UInt8) × (List UInt8))) × (List ((List UInt8) × Int))) =>
                                                                                (if 0 ≤ a16 ∧ a16 < ((data16.set j15.toNat e141).length : Int) then
                                                                                (Option.bind ((data16.set j15.toNat e141)[a16.toNat]?) fun (e144 : Int × (List ((List UInt8) × (List UInt8))) × (List ((List UInt8) × Int))) =>
                                                                                (some (j15, false, ((data16.set j15.toNat e141).set a16.toNat e142))))
                                                                                else none))
                                                                                else none))
                                                                                else none))
                                                                                else none)
                                                                                else
                                                                                (if 0 ≤ j15 ∧ j15 < (data16.length : Int) then
                                                                                (Option.bind (data16[j15.toNat]?) fun (e145 : Int × (List ((List UInt8) × (List UInt8))) × (List ((List UInt8) × Int))) =>
                                                                                (if 0 ≤ i15 ∧ i15 < (data16.length : Int) then
                                                                                (Option.bind (data16[i15.toNat]?) fun (e146 : Int × (List ((List UInt8) × (List UInt8))) × (List ((List UInt8) × Int))) =>
                                                                                (if 0 ≤ i15 ∧ i15 < (data16.length : Int) then
                                                                                (Option.bind (data16[i15.toNat]?) fun (e147 : Int × (List ((List UInt8) × (List UInt8))) × (List ((List UInt8) × Int))) =>
                                                                                (if 0 ≤ j15 ∧ j15 < ((data16.set i15.toNat e145).length : Int) then
                                                                                (Option.bind ((data16.set i15.toNat e145)[j15.toNat]?) fun (e148 : Int × (List ((List UInt8) × (List UInt8))) × (List ((List UInt8) × Int))) =>
                                                                                (if fits (i15 + 1) then (if fits (j15 - 1) then (go12 (((data16.set i15.toNat e145).set j15.toNat e146), a16, cmp16, (i15 + 1), (j15 - 1))) else none) else none))
                                                                                else none))
                                                                                else none))
                                                                                else none))
                                                                                else none)))) N (data14, a14, cmp14, i13, j13)))) N (data13, a13, cmp13, i12, j12))) N (((data12.set i11.toNat e107).set j11.toNat e108), a12, cmp12, (i11 + 1), (j11 - 1))) else none) else none))
                                                              else none))
                                                          else none))
                                                      else none))
                                                  else none)))))
                                        else none))
                                    else none)
                                  else
                                  (bif (decide (j11 < i11)) then
                                    (if 0 ≤ a12 ∧ a12 < (data12.length : Int) then
                                      (Option.bind (data12[a12.toNat]?) fun (e149 : Int × (List ((List UInt8) × (List UInt8))) × (List ((List UInt8) × Int))) =>
                                        (if 0 ≤ j11 ∧ j11 < (data12.length : Int) then
                                          (Option.bind (data12[j11.toNat]?) fun (e150 : Int × (List ((List UInt8) × (List UInt8))) × (List ((List UInt8) × Int))) =>
                                            (if 0 ≤ j11 ∧ j11 < (data12.length : Int) then
                                              (Option.bind (data12[j11.toNat]?) fun (e151 : Int × (List ((List UInt8) × (List UInt8))) × (List ((List UInt8) × Int))) =>
                                                (if 0 ≤ a12 ∧ a12 < ((data12.set j11.toNat e149).length : Int) then
                                                  (Option.bind ((data12.set j11.toNat e149)[a12.toNat]?) fun (e152 : Int × (List ((List UInt8) × (List UInt8))) × (List ((List UInt8) × Int))) =>
                                                    (some (j11, true, ((data12.set j11.toNat e149).set a12.toNat e150))))
                                                  else none))
                                              else none))
                                          else none))
                                      else none)
                                    else
                                    (if 0 ≤ j11 ∧ j11 < (data12.length : Int) then
                                      (Option.bind (data12[j11.toNat]?) fun (e153 : Int × (List ((List UInt8) × (List UInt8))) × (List ((List UInt8) × Int))) =>
                                        (if 0 ≤ i11 ∧ i11 < (data12.length : Int) then
                                          (Option.bind (data12[i11.toNat]?) fun (e154 : Int × (List ((List UInt8) × (List UInt8))) × (List ((List UInt8) × Int))) =>
                                            (if 0 ≤ i11 ∧ i11 < (data12.length : Int) then
                                              (Option.bind (data12[i11.toNat]?) fun (e155 : Int × (List ((List UInt8) × (List UInt8))) × (List ((List UInt8) × Int))) =>
                                                (if 0 ≤ j11 ∧ j11 < ((data12.set i11.toNat e153).length : Int) then
                                                  (Option.bind ((data12.set i11.toNat e153)[j11.toNat]?) fun (e156 : Int × (List ((List UInt8) × (List UInt8))) × (List ((List UInt8) × Int))) =>
                                                    (if fits (i11 + 1) then (if fits (j11 - 1) then (iter (fun (go16 : ((List (Int × (List ((List UInt8) × (List UInt8))) × (List ((List UInt8) × Int)))) × Int × (List ((List UInt8) × Bool)) × Int × Int) → Option (Int × Bool × (List (Int × (List ((List UInt8) × (List UInt8))) × (List ((List UInt8) × Int)))))) (g : (List (Int × (List ((List UInt8) × (List UInt8))) × (List ((List UInt8) × Int)))) × Int × (List ((List UInt8) × Bool)) × Int × Int) => 
                                                            match g with
                                                            | (data17, a17, cmp17, i16, j16) =>
                                                            (iter (fun (go17 : ((List (Int × (List ((List UInt8) × (List UInt8))) × (List ((List UInt8) × Int)))) × Int × (List ((List UInt8) × Bool)) × Int × Int) → Option (Int × Bool × (List (Int × (List ((List UInt8) × (List UInt8))) × (List ((List UInt8) × Int)))))) (g : (List (Int × (List ((List UInt8) × (List UInt8))) × (List ((List UInt8) × Int)))) × Int × (List ((List UInt8) × Bool)) × Int × Int) => 
                                                                match g with
                                                                | (data18, a18, cmp18, i17, j17) =>
                                                                (bif (decide (i17 ≤ j17)) then
                                                                  (if 0 ≤ i17 ∧ i17 < (data18.length : Int) then
                                                                    (Option.bind (data18[i17.toNat]?) fun (e157 : Int × (List ((List UInt8) × (List UInt8))) × (List ((List UInt8) × Int))) =>
                                                                      (if 0 ≤ a18 ∧ a18 < (data18.length : Int) then
                                                                        (Option.bind (data18[a18.toNat]?) fun (e158 : Int × (List ((List UInt8) × (List UInt8))) × (List ((List UInt8) × Int))) =>
                                                                          (Option.bind (i_SortOf_1_m N e157.1 e157.2.1 e157.2.2 e158.1 e158.2.1 e158.2.2 cmp18) fun (r13 : Int) =>
                                                                            (bif (decide (r13 < 0)) then
                                                                              (if fits (i17 + 1) then (go17 (data18, a18, cmp18, (i17 + 1), j17)) else none)
                                                                              else
                                                                              (iter (fun (go18 : ((List (Int × (List ((List UInt8) × (List UInt8))) × (List ((List UInt8) × Int)))) × Int × (List ((List UInt8) × Bool)) × Int × Int) → Option (Int × Bool × (List (Int × (List ((List UInt8) × (List UInt8))) × (List ((List UInt8) × Int)))))) (g : (List (Int × (List ((List UInt8) × (List UInt8))) × (List ((List UInt8) × Int)))) × Int × (List ((List UInt8) × Bool)) × Int × Int) => 
                                                                                match g with
                                                                                | (data19, a19, cmp19, i18, j18) =>
                                                                                (bif (decide (i18 ≤ j18)) then
                                                                                (if 0 ≤ j18 ∧ j18 < (data19.length : Int) then
                                                                                (Option.bind (data19[j18.toNat]?) fun (e159 : Int × (List ((List UInt8) × (List UInt8))) × (List ((List UInt8) × Int))) =>
                                                                                (if 0 ≤ a19 ∧ a19 < (data19.length : Int) then
                                                                                (Option.bind (data19[a19.toNat]?) fun (e160 : Int × (List ((List UInt8) × (List UInt8))) × (List ((List UInt8) × Int))) =>
                                                                                (Option.bind (i_SortOf_1_m N e159.1 e159.2.1 e159.2.2 e160.1 e160.2.1 e160.2.2 cmp19) fun (r14 : Int) =>
                                                                                (bif (!(decide (r14 < 0))) then
                                                                                (if fits (j18 - 1) then (go18 (data19, a19, cmp19, i18, (j18 - 1))) else none)
                                                                                else
                                                                                (bif (decide (j18 < i18)) then
                                                                                (if 0 ≤ a19 ∧ a19 < (data19.length : Int) then
                                                                                (Option.bind (data19[a19.toNat]?) fun (e161 : Int × (List ((List UInt8) × (List UInt8))) × (List ((List UInt8) × Int))) =>
                                                                                (if 0 ≤ j18 ∧ j18 < (data19.length : Int) then
                                                                                (Option.bind (data19[j18.toNat]?) fun (e162 : Int × (List ((List UInt8) × (List UInt8))) × (List ((List UInt8) × Int))) =>
                                                                                (if 0 ≤ j18 ∧ j18 < (data19.length : Int) then
                                                                                (Option.bind (data19[j18.toNat]?) fun (e163 : Int × (List ((List UInt8) × (List UInt8))) × (List ((List UInt8) × Int))) =>
                                                                                (if 0 ≤ a19 ∧ a19 < ((data19.set j18.toNat e161).length : Int) then
                                                                                (Option.bind ((data19.set j18.toNat e161)[a19.toNat]?) fun (e164 : Int × (List ((List UInt8) × (List UInt8))) × (List ((List UInt8) × Int))) =>
                                                                                (some (j18, false, ((data19.set j18.toNat e161).set a19.toNat e162))))
                                                                                else none))
                                                                                else none))
                                                                                else none))
                                                                                else none)
                                                                                else
                                                                                (if 0 ≤ j18 ∧ j18 < (data19.length : Int) then
                                                                                (Option.bind (data19[j18.toNat]?) fun (e165 : Int × (List ((List UInt8) × (List UInt8))) × (List ((List UInt8) × Int))) =>
                                                                                (if 0 ≤ i18 ∧ i18 < (data19.length : Int) then
                                                                                (Option.bind (data19[i18.toNat]?) fun (e166 : Int × (List ((List UInt8) × (List UInt8))) × (List ((List UInt8) × Int))) =>
                                                                                (if 0 ≤ i18 ∧ i18 < (data19.length : Int) then
                                                                                (Option.bind (data19[i18.toNat]?) fun (e167 : Int × (List ((List UInt8) × (List UInt8))) × (List ((List UInt8) × Int))) =>
                                                                                (if 0 ≤ j18 ∧ j18 < ((data19.set i18.toNat e165).length : Int) then
                                                                                (Option.bind ((data19.set i18.toNat e165)[j18.toNat]?) fun (e168 : Int × (List ((List UInt8) × (List UInt8))) × (List ((List UInt8) × Int))) =>
                                                                                (if fits (i18 + 1) then (if fits (j18 - 1) then (go16 (((data19.set i18.toNat e165).set j18.toNat e166), a19, cmp19, (i18 + 1), (j18 - 1))) else none) else none))
                                                                                else none))
                                                                                else none))
                                                                                else none))
                                                                                else none)))))
                                                                                else none))
                                                                                else none)
                                                                                else
                                                                                (bif (decide (j18 < i18)) then
                                                                                (if 0 ≤ a19 ∧ a19 < (data19.length : Int) then
                                                                                (Option.bind (data19[a19.toNat]?) fun (e169 : Int × (List ((List UInt8) × (List UInt8))) × (List ((List UInt8) × Int))) =>
                                                                                (if 0 ≤ j18 ∧ j18 < (data19.length : Int) then
                                                                                (Option.bind (data19[j18.toNat]?) fun (e170 : Int × (List ((List UInt8) × (List UInt8))) × (List ((List UInt8) × Int))) =>
                                                                                (if 0 ≤ j18 ∧ j18 < (data19.length : Int) then
                                                                                (Option.bind (data19[j18.toNat]?) fun (e171 : Int × (List ((List UInt8) × (List UInt8))) × (List ((List UInt8) × Int))) =>
                                                                                (if 0 ≤ a19 ∧ a19 < ((data19.set j18.toNat e169).length : Int) then
                                                                                (Option.bind ((data19.set j18.toNat e169)[a19.toNat]?) fun (e172 : Int × (List ((List UInt8) × (List UInt8))) × (List ((List UInt8) × Int))) =>
                                                                                (some (j18, false, ((data19.set j18.toNat e169).set a19.toNat e170))))
                                                                                else none))
                                                                                else none))
                                                                                else none))
                                                                                else none)
                                                                                else
                                                                                (if 0 ≤ j18 ∧ j18 < (data19.length : Int) then
                                                                                (Option.bind (data19[j18.toNat]?) fun (e173 : Int × (List ((List UInt8) × (List UInt8))) × (List ((List UInt8) × Int))) =>
                                                                                (if 0 ≤ i18 ∧ i18 < (data19.length : Int) then
                                                                                (Option.bind (data19[i18.toNat]?) fun (e174 : Int × (List ((List UInt8) × (List UInt8))) × (List ((List UInt8) × Int))) =>
                                                                                (if 0 ≤ i18 ∧ i18 < (data19.length : Int) then
                                                                                (Option.bind (data19[i18.toNat]?) fun (e175 : Int × (List ((List UInt8) × (List UInt8))) × (List ((List UInt8) × Int))) =>
                                                                                (if 0 ≤ j18 ∧ j18 < ((data19.set i18.toNat e173).length : Int) then
                                                                                (Option.bind ((data19.set i18.toNat e173)[j18.toNat]?) fun (e176 : Int × (List ((List UInt8) × (List UInt8))) × (List ((List UInt8) × Int))) =>
                                                                                (if fits (i18 + 1) then (if fits (j18 - 1) then (go16 (((data19.set i18.toNat e173).set j18.toNat e174), a19, cmp19, (i18 + 1), (j18 - 1))) else none) else none))
                                                                                else none))
                                                                                else none))
                                                                                else none))
                                                                                else none)))) N (data18, a18, cmp18, i17, j17)))))
                                                                        else none))
                                                                    else none)
                                                                  else
                                                                  (iter (fun (go19 : ((List (Int × (List ((List UInt8) × (List UInt8))) × (List ((List UInt8) × Int)))) × Int × (List ((List UInt8) × Bool)) × Int × Int) → Option (Int × Bool × (List (Int × (List ((List UInt8) × (List UInt8))) × (List ((List UInt8) × Int)))))) (g : (List (Int × (List ((List UInt8) × (List UInt8))) × (List ((List UInt8) × Int)))) × Int × (List ((List UInt8) × Bool)) × Int × Int) => 
                                                                      match g with
                                                                      | (data20, a20, cmp20, i19, j19) =>
                                                                      (bif (decide (i19 ≤ j19)) then
                                                                        (if 0 ≤ j19 ∧ j19 < (data20.length : Int) then
                                                                          (Option.bind (data20[j19.toNat]?) fun (e177 : Int × (List ((List UInt8) × (List UInt8))) × (List ((List UInt8) × Int))) =>
                                                                            (if 0 ≤ a20 ∧ a20 < (data20.length : Int) then
                                                                              (Option.bind (data20[a20.toNat]?) fun (e178 : Int × (List ((List UInt8) × (List UInt8))) × (List ((List UInt8) × Int))) =>
                                                                                (Option.bind (i_SortOf_1_m N e177.1 e177.2.1 e177.2.2 e178.1 e178.2.1 e178.2.2 cmp20) fun (r15 : Int) =>
                                                                                (bif (!(decide (r15 < 0))) then
                                                                                (if fits (j19 - 1) then (go19 (data20, a20, cmp20, i19, (j19 - 1))) else none)
                                                                                else
                                                                                (bif (decide (j19 < i19)) then
                                                                                (if 0 ≤ a20 ∧ a20 < (data20.length : Int) then
                                                                                (Option.bind (data20[a20.toNat]?) fun (e179 : Int × (List ((List UInt8) × (List UInt8))) × (List ((List UInt8) × Int))) =>
                                                                                (if 0 ≤ j19 ∧ j19 < (data20.length : Int) then
                                                                                (Option.bind (data20[j19.toNat]?) fun (e180 : Int × (List ((List UInt8) × (List UInt8))) × (List ((List UInt8) × Int))) =>
                                                                                (if 0 ≤ j19 ∧ j19 < (data20.length : Int) then
                                                                                (Option.bind (data20[j19.toNat]?) fun (e181 : Int × (List ((List UInt8) × (List UInt8))) × (List ((List UInt8) × Int))) =>
                                                                                (if 0 ≤ a20 ∧ a20 < ((data20.set j19.toNat e179).length : Int) then
                                                                                (Option.bind ((data20.set j19.toNat e179)[a20.toNat]?) fun (e182 : Int × (List ((List UInt8) × (List UInt8))) × (List ((List UInt8) × Int))) =>
                                                                                (some (j19, false, ((data20.set j19.toNat e179).set a20.toNat e180))))
                                                                                else none))
                                                                                else none))
                                                                                else none))
                                                                                else none)
                                                                                else
                                                                                (if 0 ≤ j19 ∧ j19 < (data20.length : Int) then
                                                                                (Option.bind (data20[j19.toNat]?) fun (e183 : Int × (List ((List UInt8) × (List UInt8))) × (List ((List UInt8) × Int))) =>
                                                                                (if 0 ≤ i19 ∧ i19 < (data20.length : Int) then
                                                                                (Option.bind (data20[i19.toNat]?) fun (e184 : Int × (List ((List UInt8) × (List UInt8))) × (List ((List UInt8) × Int))) =>
                                                                                (if 0 ≤ i19 ∧ i19 < (data20.length : Int) then
                                                                                (Option.bind (data20[i19.toNat]?) fun (e185 : Int × (List ((List UInt8) × (List UInt8))) × (List ((List UInt8) × Int))) =>
                                                                                (if 0 ≤ j19 ∧ j19 < ((data20.set i19.toNat e183).length : Int) then
                                                                                (Option.bind ((data20.set i19.toNat e183)[j19.toNat]?) fun (e186 : Int × (List ((List UInt8) × (List UInt8))) × (List ((List UInt8) × Int))) =>
                                                                                (if fits (i19 + 1) then (if fits (j19 - 1) then (go16 (((data20.set i19.toNat e183).set j19.toNat e184), a20, cmp20, (i19 + 1), (j19 - 1))) else none) else none))
                                                                                else none))
                                                                                else none))
                                                                                else none))
                                                                                else none)))))
                                                                              else none))
                                                                          else none)
                                                                        else
                                                                        (bif (decide (j19 < i19)) then
                                                                          (if 0 ≤ a20 ∧ a20 < (data20.length : Int) then
                                                                            (Option.bind (data20[a20.toNat]?) fun (e187 : Int × (List ((List UInt8) × (List UInt8))) × (List ((List UInt8) × Int))) =>
                                                                              (if 0 ≤ j19 ∧ j19 < (data20.length : Int) then
                                                                                (Option.bind (data20[j19.toNat]?) fun (e188 : Int × (List ((List UInt8) × (List UInt8))) × (List ((List UInt8) × Int))) =>
                                                                                (if 0 ≤ j19 ∧ j19 < (data20.length : Int) then
                                                                                (Option.bind (data20[j19.toNat]?) fun (e189 : Int × (List ((List UInt8) × (List UInt8))) × (List ((List UInt8) × Int))) =>
                                                                                (if 0 ≤ a20 ∧ a20 < ((data20.set j19.toNat e187).length : Int) then
                                                                                (Option.bind ((data20.set j19.toNat e187)[a20.toNat]?) fun (e190 : Int × (List ((List UInt8) × (List UInt8))) × (List ((List UInt8) × Int))) =>
                                                                                (some (j19, false, ((data20.set j19.toNat e187).set a20.toNat e188))))
                                                                                else none))
                                                                                else none))
                                                                                else none))
                                                                            else none)
                                                                          else
                                                                          (if 0 ≤ j19 ∧ j19 < (data20.length : Int) then
                                                                            (Option.bind (data20[j19.toNat]?) fun (e191 : Int × (List ((List UInt8) × (List UInt8))) × (List ((List UInt8) × Int))) =>
                                                                              (if 0 ≤ i19 ∧ i19 < (data20.length : Int) then
                                                                                (Option.bind (data20[i19.toNat]?) fun (e192 : Int × (List ((List UInt8) × (List UInt8))) × (List ((List UInt8) × Int))) =>
                                                                                (if 0 ≤ i19 ∧ i19 < (data20.length : Int) then
                                                                                (Option.bind (data20[i19.toNat]?) fun (e193 : Int × (List ((List UInt8) × (List UInt8))) × (List ((List UInt8) × Int))) =>
                                                                                (if 0 ≤ j19 ∧ j19 < ((data20.set i19.toNat e191).length : Int) then
                                                                                (Option.bind ((data20.set i19.toNat e191)[j19.toNat]?) fun (e194 : Int × (List ((List UInt8) × (List UInt8))) × (List ((List UInt8) × Int))) =>
                                                                                (if fits (i19 + 1) then (if fits (j19 - 1) then (go16 (((data20.set i19.toNat e191).set j19.toNat e192), a20, cmp20, (i19 + 1), (j19 - 1))) else none) else none))
                                                                                else none))
                                                                                else none))
                                                                                else none))
                                                                            else none)))) N (data18, a18, cmp18, i17, j17)))) N (data17, a17, cmp17, i16, j16))) N (((data12.set i11.toNat e153).set j11.toNat e154), a12, cmp12, (i11 + 1), (j11 - 1))) else none) else none))
                                                  else none))
                                              else none))
                                          else none))
                                      else none)))) N (data2, a2, cmp2, i, j)))) N (((data.set a.toNat e).set pivot.toNat e2), a, cmp, (a + 1), (b - 1))) else none) else none))
                else none))
            else none))
        else none))
    else none)
def k_slices_partitionCmpFunc_789_M (N : Nat) : Model := ⟨k_slices_partitionCmpFunc_789_arg, k_slices_partitionCmpFunc_789_ret, fun a => k_slices_partitionCmpFunc_789_m N a.1 a.2.1 a.2.2.1 a.2.2.2.1 a.2.2.2.2⟩
set_option maxRecDepth 1000000 in
theorem k_slices_partitionCmpFunc_789_ok (N : Nat) : ModelOk Try.prog 97 (k_slices_partitionCmpFunc_789_M N) :=
  modelOk_of (E := mkEnv [(59, i_SortOf_1_M N)] [] [800000]) (mkEnv_ok (fnsOk_cons (i_SortOf_1_ok N) fnsOk_nil) _ _) Try.func97 (by kernel_rfl) rfl N k_slices_partitionCmpFunc_789_h (k_slices_partitionCmpFunc_789_M N) (by kernel_rfl) (by kernel_rfl) (fun a => by kernel_rfl)
/-! slices.pdqsortCmpFunc[loop.example/fossick/impl.Doc] -/
def k_slices_pdqsortCmpFunc_895_arg : Sh := ⟨[.mtk 800000 (.pair (.int .i64) (.pair (.sl (.pair .str .str)) (.sl (.pair .str (.int .i64))))) 33 false, .pv (.int .i64), .pv (.int .i64), .pv (.int .i64), .clo 59 [.ptr (.sl (.pair .str .bool))]], []⟩
def k_slices_pdqsortCmpFunc_895_ret : Sh := ⟨[.tup [], .mtk 800000 (.pair (.int .i64) (.pair (.sl (.pair .str .str)) (.sl (.pair .str (.int .i64))))) 33 false], []⟩
def k_slices_pdqsortCmpFunc_895_s1 : Sh := ⟨[.mtk 800000 (.pair (.int .i64) (.pair (.sl (.pair .str .str)) (.sl (.pair .str (.int .i64))))) 33 false, .pv (.int .i64), .pv (.int .i64), .pv (.int .i64), .clo 59 [.ptr (.sl (.pair .str .bool))], .dead, .dead, .dead, .dead, .dead, .pv .bool, .pv .bool, .dead, .dead, .dead, .dead, .dead, .dead, .dead, .dead, .dead, .dead, .dead, .dead, .dead, .dead, .dead, .dead, .dead, .dead, .dead, .dead, .dead, .dead, .dead, .dead, .dead, .dead, .dead, .dead, .dead, .dead, .dead, .dead, .dead, .dead, .dead, .dead, .dead, .dead, .dead, .dead, .dead, .dead, .dead, .dead, .dead, .dead, .dead, .dead, .dead, .dead, .dead, .dead, .dead, .dead, .dead, .dead, .dead, .dead, .dead, .dead, .dead, .dead, .dead, .dead, .dead, .dead, .dead, .dead, .dead, .dead, .dead, .dead, .dead, .dead, .dead, .dead, .dead, .dead, .dead, .dead, .dead, .dead, .dead, .dead, .dead, .dead, .dead, .dead, .dead, .dead, .dead, .dead, .dead, .dead, .dead, .dead, .dead, .dead, .dead, .dead, .dead, .dead, .dead, .dead, .dead, .dead, .dead, .dead, .dead, .dead, .dead, .dead, .dead, .dead, .dead, .dead, .dead, .dead, .dead, .dead, .dead, .dead, .dead, .dead, .dead, .dead, .dead, .dead, .dead, .dead, .dead, .dead, .dead, .dead, .dead, .dead], []⟩
def k_slices_pdqsortCmpFunc_895_s2 : Sh := ⟨[.mtk 800000 (.pair (.int .i64) (.pair (.sl (.pair .str .str)) (.sl (.pair .str (.int .i64))))) 33 false, .pv (.int .i64), .pv (.int .i64), .pv (.int .i64), .clo 59 [.ptr (.sl (.pair .str .bool))], .dead, .dead, .dead, .dead, .dead, .pv .bool, .pv .bool, .pv (.int .i64), .pv (.int .i64), .dead, .dead, .dead, .dead, .dead, .dead, .dead, .dead, .dead, .dead, .dead, .dead, .dead, .dead, .dead, .dead, .dead, .dead, .dead, .dead, .dead, .dead, .dead, .dead, .dead, .dead, .dead, .dead, .dead, .dead, .dead, .dead, .dead, .dead, .dead, .dead, .dead, .dead, .dead, .dead, .dead, .dead, .dead, .dead, .dead, .dead, .dead, .dead, .dead, .dead, .dead, .dead, .dead, .dead, .dead, .dead, .dead, .dead, .dead, .dead, .dead, .dead, .dead, .dead, .dead, .dead, .dead, .dead, .dead, .dead, .dead, .dead, .dead, .dead, .dead, .dead, .dead, .dead, .dead, .dead, .dead, .dead, .dead, .dead, .dead, .dead, .dead, .dead, .dead, .dead, .dead, .dead, .dead, .dead, .dead, .dead, .dead, .dead, .dead, .dead, .dead, .dead, .dead, .dead, .dead, .dead, .dead, .dead, .dead, .dead, .dead, .dead, .dead, .dead, .dead, .dead, .dead, .dead, .dead, .dead, .dead, .dead, .dead, .dead, .dead, .dead, .dead, .dead, .dead, .dead, .dead, .dead, .dead, .dead], []⟩
def k_slices_pdqsortCmpFunc_895_s3 : Sh := ⟨[.mtk 800000 (.pair (.int .i64) (.pair (.sl (.pair .str .str)) (.sl (.pair .str (.int .i64))))) 33 false, .pv (.int .i64), .pv (.int .i64), .pv (.int .i64), .clo 59 [.ptr (.sl (.pair .str .bool))], .dead, .dead, .dead, .dead, .dead, .pv .bool, .pv .bool, .pv (.int .i64), .pv (.int .i64), .pv (.int .i64), .dead, .dead, .dead, .dead, .dead, .dead, .dead, .dead, .dead, .dead, .dead, .dead, .dead, .dead, .dead, .dead, .dead, .dead, .dead, .dead, .dead, .dead, .dead, .dead, .dead, .dead, .dead, .dead, .dead, .dead, .dead, .dead, .dead, .dead, .dead, .dead, .dead, .dead, .dead, .dead, .dead, .dead, .dead, .dead, .dead, .dead, .dead, .dead, .dead, .dead, .dead, .dead, .dead, .dead, .dead, .dead, .dead, .dead, .dead, .dead, .dead, .dead, .dead, .dead, .dead, .dead, .dead, .dead, .dead, .dead, .dead, .dead, .dead, .dead, .dead, .dead, .dead, .dead, .dead, .dead, .dead, .dead, .dead, .dead, .dead, .dead, .dead, .dead, .dead, .dead, .dead, .dead, .dead, .dead, .dead, .dead, .dead, .dead, .dead, .dead, .dead, .dead, .dead, .dead, .dead, .dead, .dead, .dead, .dead, .dead, .dead, .dead, .dead, .dead, .dead, .dead, .dead, .dead, .dead, .dead, .dead, .dead, .dead, .dead, .dead, .dead, .dead, .dead, .dead, .dead, .dead, .dead, .dead], []⟩
def k_slices_pdqsortCmpFunc_895_s4 : Sh := ⟨[.mtk 800000 (.pair (.int .i64) (.pair (.sl (.pair .str .str)) (.sl (.pair .str (.int .i64))))) 33 false, .pv (.int .i64), .pv (.int .i64), .pv (.int .i64), .clo 59 [.ptr (.sl (.pair .str .bool))], .dead, .dead, .dead, .dead, .dead, .pv .bool, .pv .bool, .pv (.int .i64), .dead, .dead, .dead, .dead, .dead, .dead, .dead, .dead, .dead, .dead, .dead, .dead, .dead, .dead, .dead, .dead, .dead, .dead, .dead, .dead, .dead, .dead, .dead, .dead, .dead, .dead, .dead, .dead, .dead, .dead, .dead, .dead, .dead, .dead, .dead, .dead, .dead, .dead, .dead, .dead, .dead, .dead, .dead, .dead, .dead, .dead, .dead, .dead, .dead, .dead, .dead, .dead, .dead, .dead, .dead, .dead, .dead, .dead, .dead, .dead, .dead, .dead, .dead, .dead, .dead, .dead, .dead, .dead, .dead, .dead, .dead, .dead, .dead, .dead, .dead, .dead, .dead, .dead, .dead, .dead, .dead, .dead, .dead, .dead, .dead, .dead, .dead, .dead, .dead, .dead, .dead, .dead, .dead, .dead, .dead, .dead, .dead, .dead, .dead, .dead, .dead, .dead, .dead, .dead, .dead, .dead, .dead, .dead, .dead, .dead, .dead, .dead, .dead, .dead, .dead, .dead, .dead, .dead, .dead, .dead, .dead, .dead, .dead, .dead, .dead, .dead, .dead, .dead, .dead, .dead, .dead, .dead, .dead, .dead, .dead], []⟩
def k_slices_pdqsortCmpFunc_895_h : Hint := (.seq .no (.seq .no (.block (.loop k_slices_pdqsortCmpFunc_895_s1 (.block (.seq .no (.seq .no (.seq .no (.meet k_slices_pdqsortCmpFunc_895_s4 .no (.seq .no (.meet k_slices_pdqsortCmpFunc_895_s3 .no (.meet k_slices_pdqsortCmpFunc_895_s2 .no .no))))))))))))
def k_slices_pdqsortCmpFunc_895_m (N : Nat) : (D : Nat) → (List (Int × (List ((List UInt8) × (List UInt8))) × (List ((List UInt8) × Int)))) → Int → Int → Int → (List ((List UInt8) × Bool)) → Option ((List (Int × (List ((List UInt8) × (List UInt8))) × (List ((List UInt8) × Int)))))
  | 0, _, _, _, _, _ => none
  | D + 1, data, a, b, limit, cmp =>
  (iter (fun (go : ((List (Int × (List ((List UInt8) × (List UInt8))) × (List ((List UInt8) × Int)))) × Int × Int × Int × (List ((List UInt8) × Bool)) × Bool × Bool) → Option ((List (Int × (List ((List UInt8) × (List UInt8))) × (List ((List UInt8) × Int)))))) (g : (List (Int × (List ((List UInt8) × (List UInt8))) × (List ((List UInt8) × Int)))) × Int × Int × Int × (List ((List UInt8) × Bool)) × Bool × Bool) => 
      match g with
      | (data2, a2, b2, limit2, cmp2, wasBalanced, wasPartitioned) =>
      (if fits (b2 - a2) then (bif (decide ((b2 - a2) ≤ 12)) then
          (Option.bind (k_slices_insertionSortCmpFunc_424_m N data2 a2 b2 cmp2) fun (r : (List (Int × (List ((List UInt8) × (List UInt8))) × (List ((List UInt8) × Int))))) =>
            (some r))
          else
          (bif (decide (limit2 = 0)) then
            (Option.bind (k_slices_heapSortCmpFunc_308_m N data2 a2 b2 cmp2) fun (r2 : (List (Int × (List ((List UInt8) × (List UInt8))) × (List ((List UInt8) × Int))))) =>
              (some r2))
            else
            (meet (fun (g : (List (Int × (List ((List UInt8) × (List UInt8))) × (List ((List UInt8) × Int)))) × Int × Int × Int × (List ((List UInt8) × Bool)) × Bool × Bool × Int) => 
                match g with
                | (data3, a3, b3, limit3, cmp3, wasBalanced2, wasPartitioned2, length) =>
                (Option.bind (k_slices_choosePivotCmpFunc_156_m N data3 a3 b3 cmp3) fun (r4 : Int × Int × (List (Int × (List ((List UInt8) × (List UInt8))) × (List ((List UInt8) × Int))))) =>
                  (meet (fun (g : (List (Int × (List ((List UInt8) × (List UInt8))) × (List ((List UInt8) × Int)))) × Int × Int × Int × (List ((List UInt8) × Bool)) × Bool × Bool × Int × Int × Int) => 
                      match g with
                      | (data4, a4, b4, limit4, cmp4, wasBalanced3, wasPartitioned3, length2, pivot, hint) =>
                      (meet (fun (g : (List (Int × (List ((List UInt8) × (List UInt8))) × (List ((List UInt8) × Int)))) × Int × Int × Int × (List ((List UInt8) × Bool)) × Bool × Bool × Int × Int) => 
                          match g with
                          | (data5, a5, b5, limit5, cmp5, wasBalanced4, wasPartitioned4, length3, pivot2) =>
                          (bif (decide ((0 : Int) < a5)) then
                            (if fits (a5 - 1) then (if 0 ≤ (a5 - 1) ∧ (a5 - 1) < (data5.length : Int) then
                                (Option.bind (data5[(a5 - 1).toNat]?) fun (e : Int × (List ((List UInt8) × (List UInt8))) × (List ((List UInt8) × Int))) =>
                                  (if 0 ≤ pivot2 ∧ pivot2 < (data5.length : Int) then
                                    (Option.bind (data5[pivot2.toNat]?) fun (e2 : Int × (List ((List UInt8) × (List UInt8))) × (List ((List UInt8) × Int))) =>
                                      (Option.bind (i_SortOf_1_m N e.1 e.2.1 e.2.2 e2.1 e2.2.1 e2.2.2 cmp5) fun (r7 : Int) =>
                                        (bif (!(decide (r7 < 0))) then
                                          (Option.bind (k_slices_partitionEqualCmpFunc_776_m N data5 a5 b5 pivot2 cmp5) fun (r8 : Int × (List (Int × (List ((List UInt8) × (List UInt8))) × (List ((List UInt8) × Int))))) =>
                                            (go (r8.2, r8.1, b5, limit5, cmp5, wasBalanced4, wasPartitioned4)))
                                          else
                                          (Option.bind (k_slices_partitionCmpFunc_789_m N data5 a5 b5 pivot2 cmp5) fun (r9 : Int × Bool × (List (Int × (List ((List UInt8) × (List UInt8))) × (List ((List UInt8) × Int))))) =>
                                            (if fits (r9.1 - a5) then (if fits (b5 - r9.1) then (if 8 ≠ 0 then
                                                  (if fits (length3.tdiv 8) then (bif (decide ((r9.1 - a5) < (b5 - r9.1))) then
                                                      (Option.bind (k_slices_pdqsortCmpFunc_895_m N D r9.2.2 a5 r9.1 limit5 cmp5) fun (r10 : (List (Int × (List ((List UInt8) × (List UInt8))) × (List ((List UInt8) × Int))))) =>
                                                        (if fits (r9.1 + 1) then (go (r10, (r9.1 + 1), b5, limit5, cmp5, (decide ((length3.tdiv 8) ≤ (r9.1 - a5))), r9.2.1)) else none))
                                                      else
                                                      (if fits (r9.1 + 1) then (Option.bind (k_slices_pdqsortCmpFunc_895_m N D r9.2.2 (r9.1 + 1) b5 limit5 cmp5) fun (r11 : (List (Int × (List ((List UInt8) × (List UInt8))) × (List ((List UInt8) × Int))))) =>
                                                          (go (r11, a5, r9.1, limit5, cmp5, (decide ((length3.tdiv 8) ≤ (b5 - r9.1))), r9.2.1))) else none)) else none)
                                                  else none) else none) else none)))))
                                    else none))
                                else none) else none)
                            else
                            (Option.bind (k_slices_partitionCmpFunc_789_m N data5 a5 b5 pivot2 cmp5) fun (r12 : Int × Bool × (List (Int × (List ((List UInt8) × (List UInt8))) × (List ((List UInt8) × Int))))) =>
                              (if fits (r12.1 - a5) then (if fits (b5 - r12.1) then (if 8 ≠ 0 then
                                    (if fits (length3.tdiv 8) then (bif (decide ((r12.1 - a5) < (b5 - r12.1))) then
                                        (Option.bind (k_slices_pdqsortCmpFunc_895_m N D r12.2.2 a5 r12.1 limit5 cmp5) fun (r13 : (List (Int × (List ((List UInt8) × (List UInt8))) × (List ((List UInt8) × Int))))) =>
                                          (if fits (r12.1 + 1) then (go (r13, (r12.1 + 1), b5, limit5, cmp5, (decide ((length3.tdiv 8) ≤ (r12.1 - a5))), r12.2.1)) else none))
                                        else
                                        (if fits (r12.1 + 1) then (Option.bind (k_slices_pdqsortCmpFunc_895_m N D r12.2.2 (r12.1 + 1) b5 limit5 cmp5) fun (r14 : (List (Int × (List ((List UInt8) × (List UInt8))) × (List ((List UInt8) × Int))))) =>
                                            (go (r14, a5, r12.1, limit5, cmp5, (decide ((length3.tdiv 8) ≤ (b5 - r12.1))), r12.2.1))) else none)) else none)
                                    else none) else none) else none)))) fun (J3 : ((List (Int × (List ((List UInt8) × (List UInt8))) × (List ((List UInt8) × Int)))) × Int × Int × Int × (List ((List UInt8) × Bool)) × Bool × Bool × Int × Int) → Option ((List (Int × (List ((List UInt8) × (List UInt8))) × (List ((List UInt8) × Int)))))) =>
                        (bif wasBalanced3 then
                          (bif wasPartitioned3 then
                            (bif (decide (hint = 1)) then
                              (Option.bind (k_slices_partialInsertionSortCmpFunc_281_m N data4 a4 b4 cmp4) fun (r6 : Bool × (List (Int × (List ((List UInt8) × (List UInt8))) × (List ((List UInt8) × Int))))) =>
                                (bif r6.1 then
                                  (some r6.2)
                                  else
                                  (J3 (r6.2, a4, b4, limit4, cmp4, wasBalanced3, wasPartitioned3, length2, pivot))))
                              else
                              (J3 (data4, a4, b4, limit4, cmp4, wasBalanced3, wasPartitioned3, length2, pivot)))
                            else
                            (J3 (data4, a4, b4, limit4, cmp4, wasBalanced3, wasPartitioned3, length2, pivot)))
                          else
                          (J3 (data4, a4, b4, limit4, cmp4, wasBalanced3, wasPartitioned3, length2, pivot))))) fun (J2 : ((List (Int × (List ((List UInt8) × (List UInt8))) × (List ((List UInt8) × Int)))) × Int × Int × Int × (List ((List UInt8) × Bool)) × Bool × Bool × Int × Int × Int) → Option ((List (Int × (List ((List UInt8) × (List UInt8))) × (List ((List UInt8) × Int)))))) =>
                    (bif (decide (r4.2.1 = 2)) then
                      (Option.bind (k_slices_reverseRangeCmpFunc_583_m N r4.2.2 a3 b3 cmp3) fun (r5 : (List (Int × (List ((List UInt8) × (List UInt8))) × (List ((List UInt8) × Int))))) =>
                        (if fits (b3 - 1) then (if fits (r4.1 - a3) then (if fits ((b3 - 1) - (r4.1 - a3)) then (J2 (r5, a3, b3, limit3, cmp3, wasBalanced2, wasPartitioned2, length, ((b3 - 1) - (r4.1 - a3)), 1)) else none) else none) else none))
                      else
                      (J2 (r4.2.2, a3, b3, limit3, cmp3, wasBalanced2, wasPartitioned2, length, r4.1, r4.2.1)))))) fun (J : ((List (Int × (List ((List UInt8) × (List UInt8))) × (List ((List UInt8) × Int)))) × Int × Int × Int × (List ((List UInt8) × Bool)) × Bool × Bool × Int) → Option ((List (Int × (List ((List UInt8) × (List UInt8))) × (List ((List UInt8) × Int)))))) =>
              (bif (!wasBalanced) then
                (Option.bind (k_slices_breakPatternsCmpFunc_337_m N data2 a2 b2 cmp2) fun (r3 : (List (Int × (List ((List UInt8) × (List UInt8))) × (List ((List UInt8) × Int))))) =>
                  (if fits (limit2 - 1) then (J (r3, a2, b2, (limit2 - 1), cmp2, wasBalanced, wasPartitioned, (b2 - a2))) else none))
                else
                (J (data2, a2, b2, limit2, cmp2, wasBalanced, wasPartitioned, (b2 - a2))))))) else none)) N (data, a, b, limit, cmp, true, true))
def k_slices_pdqsortCmpFunc_895_M (N D : Nat) : Model := ⟨k_slices_pdqsortCmpFunc_895_arg, k_slices_pdqsortCmpFunc_895_ret, fun a => k_slices_pdqsortCmpFunc_895_m N D a.1 a.2.1 a.2.2.1 a.2.2.2.1 a.2.2.2.2⟩
set_option maxRecDepth 1000000 in
theorem k_slices_pdqsortCmpFunc_895_ok (N : Nat) : ∀ D, ModelOk Try.prog 84 (k_slices_pdqsortCmpFunc_895_M N D)
  | 0 => modelOk_none ⟨_, Try.func84, by decide, by kernel_rfl⟩ _ (fun a => rfl)
  | D + 1 =>
  modelOk_of (E := mkEnv [(84, k_slices_pdqsortCmpFunc_895_M N D), (90, k_slices_insertionSortCmpFunc_424_M N), (91, k_slices_heapSortCmpFunc_308_M N), (92, k_slices_breakPatternsCmpFunc_337_M N), (93, k_slices_choosePivotCmpFunc_156_M N), (94, k_slices_reverseRangeCmpFunc_583_M N), (95, k_slices_partialInsertionSortCmpFunc_281_M N), (59, i_SortOf_1_M N), (96, k_slices_partitionEqualCmpFunc_776_M N), (97, k_slices_partitionCmpFunc_789_M N)] [] [800000]) (mkEnv_ok (fnsOk_cons (k_slices_pdqsortCmpFunc_895_ok N D) (fnsOk_cons (k_slices_insertionSortCmpFunc_424_ok N) (fnsOk_cons (k_slices_heapSortCmpFunc_308_ok N) (fnsOk_cons (k_slices_breakPatternsCmpFunc_337_ok N) (fnsOk_cons (k_slices_choosePivotCmpFunc_156_ok N) (fnsOk_cons (k_slices_reverseRangeCmpFunc_583_ok N) (fnsOk_cons (k_slices_partialInsertionSortCmpFunc_281_ok N) (fnsOk_cons (i_SortOf_1_ok N) (fnsOk_cons (k_slices_partitionEqualCmpFunc_776_ok N) (fnsOk_cons (k_slices_partitionCmpFunc_789_ok N) fnsOk_nil)))))))))) _ _) Try.func84 (by kernel_rfl) rfl N k_slices_pdqsortCmpFunc_895_h (k_slices_pdqsortCmpFunc_895_M N (D + 1)) (by kernel_rfl) (by kernel_rfl) (fun a => by kernel_rfl)
/-! slices.SortFunc[[]loop.example/fossick/impl.Doc,loop.example/fossick/impl.Doc] -/
def k_slices_SortFunc_669_arg : Sh := ⟨[.mtk 800000 (.pair (.int .i64) (.pair (.sl (.pair .str .str)) (.sl (.pair .str (.int .i64))))) 33 false, .clo 59 [.ptr (.sl (.pair .str .bool))]], []⟩
def k_slices_SortFunc_669_ret : Sh := ⟨[.tup [], .mtk 800000 (.pair (.int .i64) (.pair (.sl (.pair .str .str)) (.sl (.pair .str (.int .i64))))) 33 false], []⟩
def k_slices_SortFunc_669_h : Hint := .no
def k_slices_SortFunc_669_m (N : Nat) (x : List (Int × (List ((List UInt8) × (List UInt8))) × (List ((List UInt8) × Int)))) (cmp : List ((List UInt8) × Bool)) : Option ((List (Int × (List ((List UInt8) × (List UInt8))) × (List ((List UInt8) × Int))))) :=
  (Option.bind (k_math_bits_Len_m N (IntKind.u64.wrap (x.length : Int))) fun (r : Int) =>
    (Option.bind (k_slices_pdqsortCmpFunc_895_m N N x 0 (x.length : Int) r cmp) fun (r2 : (List (Int × (List ((List UInt8) × (List UInt8))) × (List ((List UInt8) × Int))))) =>
      (some r2)))
def k_slices_SortFunc_669_M (N : Nat) : Model := ⟨k_slices_SortFunc_669_arg, k_slices_SortFunc_669_ret, fun a => k_slices_SortFunc_669_m N a.1 a.2⟩
set_option maxRecDepth 1000000 in
theorem k_slices_SortFunc_669_ok (N : Nat) : ModelOk Try.prog 58 (k_slices_SortFunc_669_M N) :=
  modelOk_of (E := mkEnv [(85, k_math_bits_Len_M N), (84, k_slices_pdqsortCmpFunc_895_M N N)] [] [800000]) (mkEnv_ok (fnsOk_cons (k_math_bits_Len_ok N) (fnsOk_cons (k_slices_pdqsortCmpFunc_895_ok N N) fnsOk_nil)) _ _) Try.func58 (by kernel_rfl) rfl N k_slices_SortFunc_669_h (k_slices_SortFunc_669_M N) (by kernel_rfl) (by kernel_rfl) (fun a => by kernel_rfl)
/-! loop.example/fossick/impl.idsOf -/
def i_idsOf_arg : Sh := ⟨[.pv (.sl (.pair (.int .i64) (.pair (.sl (.pair .str .str)) (.sl (.pair .str (.int .i64))))))], []⟩
def i_idsOf_ret : Sh := ⟨[.own 1 (.int .i64) 3 true], []⟩
def i_idsOf_s1 : Sh := ⟨[.dead, .dead, .dead, .own 600003 (.int .i64) 3 true, .dead, .dead, .dead, .pv (.sl (.pair (.int .i64) (.pair (.sl (.pair .str .str)) (.sl (.pair .str (.int .i64)))))), .pv (.int .i64), .pv (.int .i64), .dead, .dead, .dead, .dead, .dead, .dead, .dead, .dead, .dead, .dead], []⟩
def i_idsOf_h : Hint := (.seq .no (.seq .no (.seq (.seq .no (.block (.loop i_idsOf_s1 .no))) .no)))
def i_idsOf_m (N : Nat) (docs : List (Int × (List ((List UInt8) × (List UInt8))) × (List ((List UInt8) × Int)))) : Option ((List Int)) :=
  (iter (fun (go : ((List Int) × (List (Int × (List ((List UInt8) × (List UInt8))) × (List ((List UInt8) × Int)))) × Int × Int) → Option ((List Int))) (g : (List Int) × (List (Int × (List ((List UInt8) × (List UInt8))) × (List ((List UInt8) × Int)))) × Int × Int) => 
      match g with
      | (out, t7, t8, t9) =>
      (bif (decide (t9 < t8)) then
        (Option.bind (idx t7 t9) fun (e : Int × (List ((List UInt8) × (List UInt8))) × (List ((List UInt8) × Int))) =>
          (if room out.length ([e.1] : List Int).length 8 then
            (if fits (t9 + 1) then (go ((out ++ ([e.1] : List Int)), t7, t8, (t9 + 1))) else none)
            else none))
        else
        (some out))) N (([] : List Int), docs, (docs.length : Int), 0))
def i_idsOf_M (N : Nat) : Model := ⟨i_idsOf_arg, i_idsOf_ret, fun a => i_idsOf_m N a⟩
set_option maxRecDepth 1000000 in
theorem i_idsOf_ok (N : Nat) : ModelOk Try.prog 60 (i_idsOf_M N) :=
  modelOk_of (E := mkEnv [] [] []) (mkEnv_ok fnsOk_nil _ _) Try.func60 (by kernel_rfl) rfl N i_idsOf_h (i_idsOf_M N) (by kernel_rfl) (by kernel_rfl) (fun a => by kernel_rfl)
/-! loop.example/fossick/impl.SortOf -/
def i_SortOf_arg : Sh := ⟨[.pv (.sl (.pair (.int .i64) (.pair (.sl (.pair .str .str)) (.sl (.pair .str (.int .i64)))))), .pv (.sl (.pair .str .bool))], []⟩
def i_SortOf_ret : Sh := ⟨[.own 1 (.int .i64) 3 true], []⟩
def i_SortOf_h : Hint := .no
def i_SortOf_m (N : Nat) (docs : List (Int × (List ((List UInt8) × (List UInt8))) × (List ((List UInt8) × Int)))) (keys : List ((List UInt8) × Bool)) : Option ((List Int)) :=
  (Option.bind (i_DocsOk_m N docs) fun (r : Bool) =>
    (bif (!r) then
      (some ([] : List Int))
      else
      (Option.bind (i_keysOk_m N keys) fun (r2 : Bool) =>
        (bif (!r2) then
          (some ([] : List Int))
          else
          (if room ([] : List (Int × (List ((List UInt8) × (List UInt8))) × (List ((List UInt8) × Int)))).length docs.length 56 then
            (Option.bind (k_slices_SortFunc_669_m N (([] : List (Int × (List ((List UInt8) × (List UInt8))) × (List ((List UInt8) × Int)))) ++ docs) keys) fun (r3 : (List (Int × (List ((List UInt8) × (List UInt8))) × (List ((List UInt8) × Int))))) =>
              (Option.bind (i_idsOf_m N r3) fun (r4 : (List Int)) =>
                (some r4)))
            else none)))))
def i_SortOf_M (N : Nat) : Model := ⟨i_SortOf_arg, i_SortOf_ret, fun a => i_SortOf_m N a.1 a.2⟩
set_option maxRecDepth 1000000 in
theorem i_SortOf_ok (N : Nat) : ModelOk Try.prog 20 (i_SortOf_M N) :=
  modelOk_of (E := mkEnv [(24, i_DocsOk_M N), (47, i_keysOk_M N), (58, k_slices_SortFunc_669_M N), (60, i_idsOf_M N)] [14, 15, 17] []) (mkEnv_ok (fnsOk_cons (i_DocsOk_ok N) (fnsOk_cons (i_keysOk_ok N) (fnsOk_cons (k_slices_SortFunc_669_ok N) (fnsOk_cons (i_idsOf_ok N) fnsOk_nil)))) _ _) Try.func20 (by kernel_rfl) rfl N i_SortOf_h (i_SortOf_M N) (by kernel_rfl) (by kernel_rfl) (fun a => by kernel_rfl)
/-! loop.example/fossick/laws.FnSortLess -/
def l_FnSortLess_arg : Sh := ⟨[.pv (.sl (.int .u8)), .pv (.sl (.int .u8))], []⟩
def l_FnSortLess_ret : Sh := ⟨[.pv .bool], []⟩
def l_FnSortLess_h : Hint := .no
def l_FnSortLess_m (N : Nat) (code : List Int) (more : List Int) : Option (Bool) :=
  (bif (decide ((1048576 : Int) < (code.length : Int))) then
    (some true)
    else
    (bif (decide ((1048576 : Int) < (more.length : Int))) then
      (some true)
      else
      (Option.bind (s_DrawSortLess_m N code) fun (r : Int × (List ((List UInt8) × (List UInt8))) × (List ((List UInt8) × Int)) × Int × (List ((List UInt8) × (List UInt8))) × (List ((List UInt8) × Int)) × (List ((List UInt8) × Bool))) =>
        (Option.bind (s_DrawSortLess_m N more) fun (r2 : Int × (List ((List UInt8) × (List UInt8))) × (List ((List UInt8) × Int)) × Int × (List ((List UInt8) × (List UInt8))) × (List ((List UInt8) × Int)) × (List ((List UInt8) × Bool))) =>
          (Option.bind (i_SortLess_m N r.1 r.2.1 r.2.2.1 r.2.2.2.1 r.2.2.2.2.1 r.2.2.2.2.2.1 r.2.2.2.2.2.2) fun (r3 : Bool) =>
            (Option.bind (s_SortLess_m N r.1 r.2.1 r.2.2.1 r.2.2.2.1 r.2.2.2.2.1 r.2.2.2.2.2.1 r.2.2.2.2.2.2) fun (r4 : Bool) =>
              (bif (!(r3 == r4)) then
                (some false)
                else
                (Option.bind (i_SortLess_m N r.2.2.2.1 r.2.2.2.2.1 r.2.2.2.2.2.1 r.1 r.2.1 r.2.2.1 r.2.2.2.2.2.2) fun (r5 : Bool) =>
                  (Option.bind (i_DocOk_m N r.1 r.2.1 r.2.2.1) fun (r6 : Bool) =>
                    (bif (!r6) then
                      (bif r3 then
                        (some (!r5))
                        else
                        (some true))
                      else
                      (Option.bind (i_DocOk_m N r.2.2.2.1 r.2.2.2.2.1 r.2.2.2.2.2.1) fun (r7 : Bool) =>
                        (bif (!r7) then
                          (bif r3 then
                            (some (!r5))
                            else
                            (some true))
                          else
                          (Option.bind (i_DocOk_m N r2.1 r2.2.1 r2.2.2.1) fun (r8 : Bool) =>
                            (bif (!r8) then
                              (bif r3 then
                                (some (!r5))
                                else
                                (some true))
                              else
                              (Option.bind (i_SortOf_m N ([(r.1, r.2.1, r.2.2.1)] : List (Int × (List ((List UInt8) × (List UInt8))) × (List ((List UInt8) × Int)))) r.2.2.2.2.2.2) fun (r9 : (List Int)) =>
                                (bif (decide ((r9.length : Int) = 0)) then
                                  (bif r3 then
                                    (some (!r5))
                                    else
                                    (some true))
                                  else
                                  (bif r3 then
                                    (bif (!r5) then
                                      (bif (decide (r.1 = r.2.2.2.1)) then
                                        (bif (!r3) then
                                          (some true)
                                          else
                                          (Option.bind (i_SortLess_m N r.2.2.2.1 r.2.2.2.2.1 r.2.2.2.2.2.1 r2.1 r2.2.1 r2.2.2.1 r.2.2.2.2.2.2) fun (r10 : Bool) =>
                                            (bif (!r10) then
                                              (some true)
                                              else
                                              (Option.bind (i_SortLess_m N r.1 r.2.1 r.2.2.1 r2.1 r2.2.1 r2.2.2.1 r.2.2.2.2.2.2) fun (r11 : Bool) =>
                                                (some r11)))))
                                        else
                                        (bif r3 then
                                          (bif (!r3) then
                                            (some true)
                                            else
                                            (Option.bind (i_SortLess_m N r.2.2.2.1 r.2.2.2.2.1 r.2.2.2.2.2.1 r2.1 r2.2.1 r2.2.2.1 r.2.2.2.2.2.2) fun (r12 : Bool) =>
                                              (bif (!r12) then
                                                (some true)
                                                else
                                                (Option.bind (i_SortLess_m N r.1 r.2.1 r.2.2.1 r2.1 r2.2.1 r2.2.2.1 r.2.2.2.2.2.2) fun (r13 : Bool) =>
                                                  (some r13)))))
                                          else
                                          (bif r5 then
                                            (bif (!r3) then
                                              (some true)
                                              else
                                              (Option.bind (i_SortLess_m N r.2.2.2.1 r.2.2.2.2.1 r.2.2.2.2.2.1 r2.1 r2.2.1 r2.2.2.1 r.2.2.2.2.2.2) fun (r14 : Bool) =>
                                                (bif (!r14) then
                                                  (some true)
                                                  else
                                                  (Option.bind (i_SortLess_m N r.1 r.2.1 r.2.2.1 r2.1 r2.2.1 r2.2.2.1 r.2.2.2.2.2.2) fun (r15 : Bool) =>
                                                    (some r15)))))
                                            else
                                            (some false))))
                                      else
                                      (some false))
                                    else
                                    (bif (decide (r.1 = r.2.2.2.1)) then
                                      (bif (!r3) then
                                        (some true)
                                        else
                                        (Option.bind (i_SortLess_m N r.2.2.2.1 r.2.2.2.2.1 r.2.2.2.2.2.1 r2.1 r2.2.1 r2.2.2.1 r.2.2.2.2.2.2) fun (r16 : Bool) =>
                                          (bif (!r16) then
                                            (some true)
                                            else
                                            (Option.bind (i_SortLess_m N r.1 r.2.1 r.2.2.1 r2.1 r2.2.1 r2.2.2.1 r.2.2.2.2.2.2) fun (r17 : Bool) =>
                                              (some r17)))))
                                      else
                                      (bif r3 then
                                        (bif (!r3) then
                                          (some true)
                                          else
                                          (Option.bind (i_SortLess_m N r.2.2.2.1 r.2.2.2.2.1 r.2.2.2.2.2.1 r2.1 r2.2.1 r2.2.2.1 r.2.2.2.2.2.2) fun (r18 : Bool) =>
                                            (bif (!r18) then
                                              (some true)
                                              else
                                              (Option.bind (i_SortLess_m N r.1 r.2.1 r.2.2.1 r2.1 r2.2.1 r2.2.2.1 r.2.2.2.2.2.2) fun (r19 : Bool) =>
                                                (some r19)))))
                                        else
                                        (bif r5 then
                                          (bif (!r3) then
                                            (some true)
                                            else
                                            (Option.bind (i_SortLess_m N r.2.2.2.1 r.2.2.2.2.1 r.2.2.2.2.2.1 r2.1 r2.2.1 r2.2.2.1 r.2.2.2.2.2.2) fun (r20 : Bool) =>
                                              (bif (!r20) then
                                                (some true)
                                                else
                                                (Option.bind (i_SortLess_m N r.1 r.2.1 r.2.2.1 r2.1 r2.2.1 r2.2.2.1 r.2.2.2.2.2.2) fun (r21 : Bool) =>
                                                  (some r21)))))
                                          else
                                          (some false)))))))))))))))))))))
def l_FnSortLess_M (N : Nat) : Model := ⟨l_FnSortLess_arg, l_FnSortLess_ret, fun a => l_FnSortLess_m N a.1 a.2⟩
set_option maxRecDepth 1000000 in
theorem l_FnSortLess_ok (N : Nat) : ModelOk Try.prog 4 (l_FnSortLess_M N) :=
  modelOk_of (E := mkEnv [(18, s_DrawSortLess_M N), (15, i_SortLess_M N), (12, s_SortLess_M N), (19, i_DocOk_M N), (20, i_SortOf_M N)] [] []) (mkEnv_ok (fnsOk_cons (s_DrawSortLess_ok N) (fnsOk_cons (i_SortLess_ok N) (fnsOk_cons (s_SortLess_ok N) (fnsOk_cons (i_DocOk_ok N) (fnsOk_cons (i_SortOf_ok N) fnsOk_nil))))) _ _) Try.func4 (by kernel_rfl) rfl N l_FnSortLess_h (l_FnSortLess_M N) (by kernel_rfl) (by kernel_rfl) (fun a => by kernel_rfl)
end Go.Proofs.Ytjggioppicabbaa
