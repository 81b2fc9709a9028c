import Derived.Test.YtlhkdngkjodgiaaG1A
set_option linter.unusedVariables false
set_option linter.unusedSimpArgs false
namespace Go.Proofs.Ytlhkdngkjodgiaa
open Go.RowKit
def i_find_arg : Sh := ⟨[.pv (.sl (.pair (.pair (.int .i64) (.pair (.int .i64) (.int .i64))) (.pair (.int .i64) (.pair (.int .i64) (.pair (.int .i64) (.pair (.int .i64) (.int .i64))))))), .agg [.pv (.int .i64), .pv (.int .i64), .pv (.int .i64), .pv (.int .i64)]], []⟩
def i_find_ret : Sh := ⟨[.tup [.mtk 1 (.int .i64) 3 true, .pv (.int .i64)]], []⟩
def i_find_s1 : Sh := ⟨[.pv (.sl (.pair (.pair (.int .i64) (.pair (.int .i64) (.int .i64))) (.pair (.int .i64) (.pair (.int .i64) (.pair (.int .i64) (.pair (.int .i64) (.int .i64))))))), .dead, .dead, .box 3 0, .dead, .dead, .box 6 0, .mtk 58 (.int .i64) 3 true, .dead, .dead, .dead, .dead, .dead, .dead, .dead, .dead, .dead, .dead, .dead, .dead, .dead, .dead, .dead, .dead, .dead, .dead, .dead, .dead, .dead, .dead, .dead, .dead, .dead, .dead, .dead, .dead, .dead, .dead, .dead, .dead, .dead, .dead, .dead, .dead, .dead, .dead, .dead, .dead, .dead, .dead, .dead, .dead, .dead, .dead, .dead, .dead, .dead, .dead, .dead, .dead, .dead, .dead, .dead, .dead, .dead, .dead, .dead, .dead, .dead, .dead, .dead, .dead, .dead, .dead, .dead, .dead, .dead, .dead, .dead, .dead, .dead, .dead, .dead, .dead, .dead, .dead, .dead, .dead], [(3, false, [.pv (.int .i64), .pv (.int .i64), .pv (.int .i64), .pv (.int .i64)]), (6, false, [.pv (.int .i64), .pv (.int .i64), .pv (.int .i64), .pv (.int .i64), .pv (.int .i64), .pv (.int .i64), .pv (.int .i64), .pv (.int .i64)])]⟩
def i_find_h : Hint := (.seq .no (.seq .no (.seq .no (.seq .no (.seq .no (.meet i_find_s1 .no .no))))))
def i_find_m (N : Nat) : (D : Nat) → (List ((Int × Int × Int) × Int × Int × Int × Int × Int)) → Int → Int → Int → Int → Option ((List Int) × Int)
 | 0, _, _, _, _, _ => none
 | D + 1, x, b, b2, b3, b4 =>
 (bif (decide ((x.length : Int) = 0)) then
 (some (([] : List Int), 0))
 else
 (Option.bind (idx x 0) fun (e : (Int × Int × Int) × Int × Int × Int × Int × Int) =>
 (bif (decide (b2 < e.2.2.1)) then
 (some (([] : List Int), 0))
 else
 (bif (decide (e.2.2.2.1 < b)) then
 (some (([] : List Int), 0))
 else
 (bif (decide (b4 < e.2.2.2.2.1)) then
 (some (([] : List Int), 0))
 else
 (bif (decide (e.2.2.2.2.2 < b3)) then
 (some (([] : List Int), 0))
 else
 (meet (fun (g : (List ((Int × Int × Int) × Int × Int × Int × Int × Int)) × (List Int) × Int × Int × Int × Int × Int × Int × Int × Int × Int × Int × Int × Int) =>
 match g with
 | (x2, ids, b5, b6, b7, b8, k, k2, k3, k4, k5, k6, k7, k8) =>
 (if fits (1 + k4) then (Option.bind (cut x2 1 (1 + k4)) fun (y : List ((Int × Int × Int) × Int × Int × Int × Int × Int)) =>
 (Option.bind (i_find_m N D y b5 b6 b7 b8) fun (r2 : (List Int) × Int) =>
 (if fits (1 + k4) then (Option.bind (cut x2 (1 + k4) (x2.length : Int)) fun (y2 : List ((Int × Int × Int) × Int × Int × Int × Int × Int)) =>
 (Option.bind (i_find_m N D y2 b5 b6 b7 b8) fun (r3 : (List Int) × Int) =>
 (if room ids.length r2.1.length 8 then
 (if room (ids ++ r2.1).length r3.1.length 8 then
 (if fits (1 + r2.2) then (if fits ((1 + r2.2) + r3.2) then (some (((ids ++ r2.1) ++ r3.1), ((1 + r2.2) + r3.2))) else none) else none)
 else none)
 else none))) else none))) else none)) fun (J : ((List ((Int × Int × Int) × Int × Int × Int × Int × Int)) × (List Int) × Int × Int × Int × Int × Int × Int × Int × Int × Int × Int × Int × Int) → Option ((List Int) × Int)) =>
 (Option.bind (i_inBox_m N b b2 b3 b4 e.1.1 e.1.2.1 e.1.2.2) fun (r : Bool) =>
 (bif r then
 (if room ([] : List Int).length ([e.1.1] : List Int).length 8 then
 (J (x, (([] : List Int) ++ ([e.1.1] : List Int)), b, b2, b3, b4, e.1.1, e.1.2.1, e.1.2.2, e.2.1, e.2.2.1, e.2.2.2.1, e.2.2.2.2.1, e.2.2.2.2.2))
 else none)
 else
 (J (x, ([] : List Int), b, b2, b3, b4, e.1.1, e.1.2.1, e.1.2.2, e.2.1, e.2.2.1, e.2.2.2.1, e.2.2.2.2.1, e.2.2.2.2.2)))))))))))
def i_find_M (N D : Nat) : Model := ⟨i_find_arg, i_find_ret, fun a => i_find_m N D a.1 a.2.1 a.2.2.1 a.2.2.2.1 a.2.2.2.2⟩
set_option maxRecDepth 1000000 in
theorem i_find_step (N D : Nat) (ih : ModelOk Try.prog 30 (i_find_M N D)) : ModelOk Try.prog 30 (i_find_M N (D + 1)) :=
  modelOk_of (E := mkEnv [(30, i_find_M N D), (47, i_inBox_M N)] [48, 57, 58, 81, 83] []) (mkEnv_ok (fnsOk_cons ih (fnsOk_cons (i_inBox_ok N) fnsOk_nil)) _ _) Try.func30 (by kernel_rfl) rfl N i_find_h (i_find_M N (D + 1)) (by kernel_rfl) (by kernel_rfl) (fun a => by kernel_rfl)
theorem i_find_ok (N : Nat) : ∀ D, ModelOk Try.prog 30 (i_find_M N D)
  | 0 => modelOk_none ⟨_, Try.func30, by decide, by kernel_rfl⟩ _ (fun a => rfl)
  | D + 1 => i_find_step N D (i_find_ok N D)
/-! cmp.Less[int] -/
def k_cmp_Less_67_arg : Sh := ⟨[.pv (.int .i64), .pv (.int .i64)], []⟩
def k_cmp_Less_67_ret : Sh := ⟨[.pv .bool], []⟩
def k_cmp_Less_67_h : Hint := .no
def k_cmp_Less_67_m (N : Nat) (x : Int) (y : Int) : Option (Bool) :=
 (Option.bind (k_cmp_isNaN_538_m N x) fun (r : Bool) =>
 (bif r then
 (Option.bind (k_cmp_isNaN_538_m N y) fun (r2 : Bool) =>
 (bif (!r2) then
 (some true)
 else
 (some (decide (x < y)))))
 else
 (some (decide (x < y)))))
def k_cmp_Less_67_M (N : Nat) : Model := ⟨k_cmp_Less_67_arg, k_cmp_Less_67_ret, fun a => k_cmp_Less_67_m N a.1 a.2⟩
set_option maxRecDepth 1000000 in
theorem k_cmp_Less_67_ok (N : Nat) : ModelOk Try.prog 68 (k_cmp_Less_67_M N) :=
  modelOk_of (E := mkEnv [(83, k_cmp_isNaN_538_M N)] [] []) (mkEnv_ok (fnsOk_cons (k_cmp_isNaN_538_ok N) fnsOk_nil) _ _) Try.func68 (by kernel_rfl) rfl N k_cmp_Less_67_h (k_cmp_Less_67_M N) (by kernel_rfl) (by kernel_rfl) (fun a => by kernel_rfl)
/-! slices.insertionSortOrdered[int] -/
def k_slices_insertionSortOrdered_555_arg : Sh := ⟨[.mtk 800000 (.int .i64) 3 true, .pv (.int .i64), .pv (.int .i64)], []⟩
def k_slices_insertionSortOrdered_555_ret : Sh := ⟨[.tup [], .mtk 800000 (.int .i64) 3 true], []⟩
def k_slices_insertionSortOrdered_555_s1 : Sh := ⟨[.mtk 800000 (.int .i64) 3 true, .pv (.int .i64), .pv (.int .i64), .dead, .dead, .dead, .pv (.int .i64), .dead, .dead, .dead, .dead, .dead, .dead, .dead, .dead, .dead, .dead, .dead, .dead, .dead, .dead, .dead, .dead, .dead, .dead, .dead, .dead, .dead, .dead, .dead, .dead, .dead, .dead, .dead, .dead, .dead, .dead, .dead, .dead, .dead, .dead, .dead, .dead, .dead, .dead, .dead, .dead, .dead, .dead], []⟩
def k_slices_insertionSortOrdered_555_s2 : Sh := ⟨[.mtk 800000 (.int .i64) 3 true, .pv (.int .i64), .pv (.int .i64), .dead, .dead, .dead, .pv (.int .i64), .pv (.int .i64), .dead, .dead, .dead, .dead, .dead, .dead, .dead, .dead, .dead, .dead, .dead, .dead, .dead, .dead, .dead, .dead, .dead, .dead, .dead, .dead, .dead, .dead, .dead, .dead, .dead, .dead, .dead, .dead, .dead, .dead, .dead, .dead, .dead, .dead, .dead, .dead, .dead, .dead, .dead, .dead, .dead], []⟩
def k_slices_insertionSortOrdered_555_h : Hint := (.seq .no (.block (.loop k_slices_insertionSortOrdered_555_s1 (.seq .no (.seq (.block (.seq .no (.block (.loop k_slices_insertionSortOrdered_555_s2 .no)))) .no)))))
def k_slices_insertionSortOrdered_555_m (N : Nat) (data : List Int) (a : Int) (b : Int) : Option ((List Int)) :=
 (if fits (a + 1) then (iter (fun (go : ((List Int) × Int × Int × Int) → Option ((List Int))) (g : (List Int) × Int × Int × Int) =>
 match g with
 | (data2, a2, b2, i) =>
 (bif (decide (i < b2)) then
 (iter (fun (go2 : ((List Int) × Int × Int × Int × Int) → Option ((List Int))) (g : (List Int) × Int × Int × Int × Int) =>
 match g with
 | (data3, a3, b3, i2, j) =>
 (bif (decide (a3 < j)) then
 (if 0 ≤ j ∧ j < (data3.length : Int) then
 (Option.bind (data3[j.toNat]?) fun (e : Int) =>
 (if fits (j - 1) then (if 0 ≤ (j - 1) ∧ (j - 1) < (data3.length : Int) then
 (Option.bind (data3[(j - 1).toNat]?) fun (e2 : Int) =>
 (Option.bind (k_cmp_Less_67_m N e e2) fun (r : Bool) =>
 (bif r then
 (if fits (j - 1) then (if fits (j - 1) then (if 0 ≤ (j - 1) ∧ (j - 1) < (data3.length : Int) then
 (Option.bind (data3[(j - 1).toNat]?) fun (e3 : Int) =>
 (if 0 ≤ j ∧ j < (data3.length : Int) then
 (Option.bind (data3[j.toNat]?) fun (e4 : Int) =>
 (if 0 ≤ j ∧ j < (data3.length : Int) then
 (Option.bind (data3[j.toNat]?) fun (e5 : Int) =>
 (if 0 ≤ (j - 1) ∧ (j - 1) < ((data3.set j.toNat e3).length : Int) then
 (Option.bind ((data3.set j.toNat e3)[(j - 1).toNat]?) fun (e6 : Int) =>
 (if fits (j - 1) then (go2 (((data3.set j.toNat e3).set (j - 1).toNat e4), a3, b3, i2, (j - 1))) else none))
 else none))
 else none))
 else none))
 else none) else none) else none)
 else
 (if fits (i2 + 1) then (go (data3, a3, b3, (i2 + 1))) else none))))
 else none) else none))
 else none)
 else
 (if fits (i2 + 1) then (go (data3, a3, b3, (i2 + 1))) else none))) N (data2, a2, b2, i, i))
 else
 (some data2))) N (data, a, b, (a + 1))) else none)
def k_slices_insertionSortOrdered_555_M (N : Nat) : Model := ⟨k_slices_insertionSortOrdered_555_arg, k_slices_insertionSortOrdered_555_ret, fun a => k_slices_insertionSortOrdered_555_m N a.1 a.2.1 a.2.2⟩
set_option maxRecDepth 1000000 in
theorem k_slices_insertionSortOrdered_555_ok (N : Nat) : ModelOk Try.prog 62 (k_slices_insertionSortOrdered_555_M N) :=
  modelOk_of (E := mkEnv [(68, k_cmp_Less_67_M N)] [] [800000]) (mkEnv_ok (fnsOk_cons (k_cmp_Less_67_ok N) fnsOk_nil) _ _) Try.func62 (by kernel_rfl) rfl N k_slices_insertionSortOrdered_555_h (k_slices_insertionSortOrdered_555_M N) (by kernel_rfl) (by kernel_rfl) (fun a => by kernel_rfl)
/-! slices.siftDownOrdered[int] -/
def k_slices_siftDownOrdered_834_arg : Sh := ⟨[.mtk 800000 (.int .i64) 3 true, .pv (.int .i64), .pv (.int .i64), .pv (.int .i64)], []⟩
def k_slices_siftDownOrdered_834_ret : Sh := ⟨[.tup [], .mtk 800000 (.int .i64) 3 true], []⟩
def k_slices_siftDownOrdered_834_s1 : Sh := ⟨[.mtk 800000 (.int .i64) 3 true, .dead, .pv (.int .i64), .pv (.int .i64), .dead, .dead, .dead, .dead, .pv (.int .i64), .dead, .dead, .dead, .dead, .dead, .dead, .dead, .dead, .dead, .dead, .dead, .dead, .dead, .dead, .dead, .dead, .dead, .dead, .dead, .dead, .dead, .dead, .dead, .dead, .dead, .dead, .dead, .dead, .dead, .dead, .dead, .dead, .dead, .dead, .dead, .dead, .dead, .dead, .dead, .dead, .dead, .dead, .dead, .dead, .dead, .dead, .dead, .dead, .dead, .dead, .dead, .dead, .dead, .dead, .dead, .dead, .dead, .dead, .dead, .dead, .dead, .dead, .dead, .dead, .dead, .dead, .dead], []⟩
def k_slices_siftDownOrdered_834_s2 : Sh := ⟨[.mtk 800000 (.int .i64) 3 true, .dead, .pv (.int .i64), .pv (.int .i64), .dead, .dead, .dead, .dead, .pv (.int .i64), .pv (.int .i64), .dead, .dead, .dead, .dead, .dead, .dead, .dead, .dead, .dead, .dead, .dead, .dead, .dead, .dead, .dead, .dead, .dead, .dead, .dead, .dead, .dead, .dead, .dead, .dead, .dead, .dead, .dead, .dead, .dead, .dead, .dead, .dead, .dead, .dead, .dead, .dead, .dead, .dead, .dead, .dead, .dead, .dead, .dead, .dead, .dead, .dead, .dead, .dead, .dead, .dead, .dead, .dead, .dead, .dead, .dead, .dead, .dead, .dead, .dead, .dead, .dead, .dead, .dead, .dead, .dead, .dead], []⟩
def k_slices_siftDownOrdered_834_h : Hint := (.seq .no (.block (.loop k_slices_siftDownOrdered_834_s1 (.block (.seq .no (.seq .no (.meet k_slices_siftDownOrdered_834_s2 .no .no)))))))
def k_slices_siftDownOrdered_834_m (N : Nat) (data : List Int) (lo : Int) (hi : Int) (first : Int) : Option ((List Int)) :=
 (iter (fun (go : ((List Int) × Int × Int × Int) → Option ((List Int))) (g : (List Int) × Int × Int × Int) =>
 match g with
 | (data2, hi2, first2, root) =>
 (if fits (2 * root) then (if fits ((2 * root) + 1) then (bif (decide (hi2 ≤ ((2 * root) + 1))) then
 (some data2)
 else
 (meet (fun (g : (List Int) × Int × Int × Int × Int) =>
 match g with
 | (data3, hi3, first3, root2, child) =>
 (if fits (first3 + root2) then (if 0 ≤ (first3 + root2) ∧ (first3 + root2) < (data3.length : Int) then
 (Option.bind (data3[(first3 + root2).toNat]?) fun (e3 : Int) =>
 (if fits (first3 + child) then (if 0 ≤ (first3 + child) ∧ (first3 + child) < (data3.length : Int) then
 (Option.bind (data3[(first3 + child).toNat]?) fun (e4 : Int) =>
 (Option.bind (k_cmp_Less_67_m N e3 e4) fun (r2 : Bool) =>
 (bif (!r2) then
 (some data3)
 else
 (if fits (first3 + root2) then (if fits (first3 + child) then (if fits (first3 + child) then (if 0 ≤ (first3 + child) ∧ (first3 + child) < (data3.length : Int) then
 (Option.bind (data3[(first3 + child).toNat]?) fun (e5 : Int) =>
 (if fits (first3 + root2) then (if 0 ≤ (first3 + root2) ∧ (first3 + root2) < (data3.length : Int) then
 (Option.bind (data3[(first3 + root2).toNat]?) fun (e6 : Int) =>
 (if 0 ≤ (first3 + root2) ∧ (first3 + root2) < (data3.length : Int) then
 (Option.bind (data3[(first3 + root2).toNat]?) fun (e7 : Int) =>
 (if 0 ≤ (first3 + child) ∧ (first3 + child) < ((data3.set (first3 + root2).toNat e5).length : Int) then
 (Option.bind ((data3.set (first3 + root2).toNat e5)[(first3 + child).toNat]?) fun (e8 : Int) =>
 (go (((data3.set (first3 + root2).toNat e5).set (first3 + child).toNat e6), hi3, first3, child)))
 else none))
 else none))
 else none) else none))
 else none) else none) else none) else none))))
 else none) else none))
 else none) else none)) fun (J : ((List Int) × Int × Int × Int × Int) → Option ((List Int))) =>
 (if fits (((2 * root) + 1) + 1) then (bif (decide ((((2 * root) + 1) + 1) < hi2)) then
 (if fits (first2 + ((2 * root) + 1)) then (if 0 ≤ (first2 + ((2 * root) + 1)) ∧ (first2 + ((2 * root) + 1)) < (data2.length : Int) then
 (Option.bind (data2[(first2 + ((2 * root) + 1)).toNat]?) fun (e : Int) =>
 (if fits (first2 + ((2 * root) + 1)) then (if fits ((first2 + ((2 * root) + 1)) + 1) then (if 0 ≤ ((first2 + ((2 * root) + 1)) + 1) ∧ ((first2 + ((2 * root) + 1)) + 1) < (data2.length : Int) then
 (Option.bind (data2[((first2 + ((2 * root) + 1)) + 1).toNat]?) fun (e2 : Int) =>
 (Option.bind (k_cmp_Less_67_m N e e2) fun (r : Bool) =>
 (bif r then
 (if fits (((2 * root) + 1) + 1) then (J (data2, hi2, first2, root, (((2 * root) + 1) + 1))) else none)
 else
 (J (data2, hi2, first2, root, ((2 * root) + 1))))))
 else none) else none) else none))
 else none) else none)
 else
 (J (data2, hi2, first2, root, ((2 * root) + 1)))) else none))) else none) else none)) N (data, hi, first, lo))
def k_slices_siftDownOrdered_834_M (N : Nat) : Model := ⟨k_slices_siftDownOrdered_834_arg, k_slices_siftDownOrdered_834_ret, fun a => k_slices_siftDownOrdered_834_m N a.1 a.2.1 a.2.2.1 a.2.2.2⟩
set_option maxRecDepth 1000000 in
theorem k_slices_siftDownOrdered_834_ok (N : Nat) : ModelOk Try.prog 78 (k_slices_siftDownOrdered_834_M N) :=
  modelOk_of (E := mkEnv [(68, k_cmp_Less_67_M N)] [] [800000]) (mkEnv_ok (fnsOk_cons (k_cmp_Less_67_ok N) fnsOk_nil) _ _) Try.func78 (by kernel_rfl) rfl N k_slices_siftDownOrdered_834_h (k_slices_siftDownOrdered_834_M N) (by kernel_rfl) (by kernel_rfl) (fun a => by kernel_rfl)
/-! slices.heapSortOrdered[int] -/
def k_slices_heapSortOrdered_977_arg : Sh := ⟨[.mtk 800000 (.int .i64) 3 true, .pv (.int .i64), .pv (.int .i64)], []⟩
def k_slices_heapSortOrdered_977_ret : Sh := ⟨[.tup [], .mtk 800000 (.int .i64) 3 true], []⟩
def k_slices_heapSortOrdered_977_s1 : Sh := ⟨[.mtk 800000 (.int .i64) 3 true, .dead, .dead, .dead, .dead, .dead, .pv (.int .i64), .pv (.int .i64), .pv (.int .i64), .pv (.int .i64), .dead, .dead, .dead, .dead, .dead, .dead, .dead, .dead, .dead, .dead, .dead, .dead, .dead, .dead, .dead, .dead, .dead, .dead, .dead, .dead, .dead, .dead, .dead, .dead, .dead, .dead, .dead, .dead, .dead, .dead, .dead, .dead, .dead, .dead, .dead, .dead, .dead, .dead, .dead, .dead, .dead, .dead, .dead, .dead, .dead, .dead], []⟩
def k_slices_heapSortOrdered_977_s2 : Sh := ⟨[.mtk 800000 (.int .i64) 3 true, .dead, .dead, .dead, .dead, .dead, .pv (.int .i64), .pv (.int .i64), .dead, .dead, .pv (.int .i64), .dead, .dead, .dead, .dead, .dead, .dead, .dead, .dead, .dead, .dead, .dead, .dead, .dead, .dead, .dead, .dead, .dead, .dead, .dead, .dead, .dead, .dead, .dead, .dead, .dead, .dead, .dead, .dead, .dead, .dead, .dead, .dead, .dead, .dead, .dead, .dead, .dead, .dead, .dead, .dead, .dead, .dead, .dead, .dead, .dead], []⟩
def k_slices_heapSortOrdered_977_h : Hint := (.seq .no (.seq .no (.seq .no (.seq (.seq .no (.block (.loop k_slices_heapSortOrdered_977_s1 .no))) (.seq .no (.block (.loop k_slices_heapSortOrdered_977_s2 .no)))))))
def k_slices_heapSortOrdered_977_m (N : Nat) (data : List Int) (a : Int) (b : Int) : Option ((List Int)) :=
 (if fits (b - a) then (if fits ((b - a) - 1) then (if 2 ≠ 0 then
 (if fits (((b - a) - 1).tdiv 2) then (iter (fun (go : ((List Int) × Int × Int × Int × Int) → Option ((List Int))) (g : (List Int) × Int × Int × Int × Int) =>
 match g with
 | (data2, first, lo, hi, i) =>
 (bif (decide ((0 : Int) ≤ i)) then
 (Option.bind (k_slices_siftDownOrdered_834_m N data2 i hi first) fun (r : (List Int)) =>
 (if fits (i - 1) then (go (r, first, lo, hi, (i - 1))) else none))
 else
 (if fits (hi - 1) then (iter (fun (go2 : ((List Int) × Int × Int × Int) → Option ((List Int))) (g : (List Int) × Int × Int × Int) =>
 match g with
 | (data3, first2, lo2, i2) =>
 (bif (decide ((0 : Int) ≤ i2)) then
 (if fits (first2 + i2) then (if fits (first2 + i2) then (if 0 ≤ (first2 + i2) ∧ (first2 + i2) < (data3.length : Int) then
 (Option.bind (data3[(first2 + i2).toNat]?) fun (e : Int) =>
 (if 0 ≤ first2 ∧ first2 < (data3.length : Int) then
 (Option.bind (data3[first2.toNat]?) fun (e2 : Int) =>
 (if 0 ≤ first2 ∧ first2 < (data3.length : Int) then
 (Option.bind (data3[first2.toNat]?) fun (e3 : Int) =>
 (if 0 ≤ (first2 + i2) ∧ (first2 + i2) < ((data3.set first2.toNat e).length : Int) then
 (Option.bind ((data3.set first2.toNat e)[(first2 + i2).toNat]?) fun (e4 : Int) =>
 (Option.bind (k_slices_siftDownOrdered_834_m N ((data3.set first2.toNat e).set (first2 + i2).toNat e2) lo2 i2 first2) fun (r2 : (List Int)) =>
 (if fits (i2 - 1) then (go2 (r2, first2, lo2, (i2 - 1))) else none)))
 else none))
 else none))
 else none))
 else none) else none) else none)
 else
 (some data3))) N (data2, first, lo, (hi - 1))) else none))) N (data, a, 0, (b - a), (((b - a) - 1).tdiv 2))) else none)
 else none) else none) else none)
def k_slices_heapSortOrdered_977_M (N : Nat) : Model := ⟨k_slices_heapSortOrdered_977_arg, k_slices_heapSortOrdered_977_ret, fun a => k_slices_heapSortOrdered_977_m N a.1 a.2.1 a.2.2⟩
set_option maxRecDepth 1000000 in
theorem k_slices_heapSortOrdered_977_ok (N : Nat) : ModelOk Try.prog 63 (k_slices_heapSortOrdered_977_M N) :=
  modelOk_of (E := mkEnv [(78, k_slices_siftDownOrdered_834_M N)] [] [800000]) (mkEnv_ok (fnsOk_cons (k_slices_siftDownOrdered_834_ok N) fnsOk_nil) _ _) Try.func63 (by kernel_rfl) rfl N k_slices_heapSortOrdered_977_h (k_slices_heapSortOrdered_977_M N) (by kernel_rfl) (by kernel_rfl) (fun a => by kernel_rfl)
/-! slices.breakPatternsOrdered[int] -/
def k_slices_breakPatternsOrdered_609_arg : Sh := ⟨[.mtk 800000 (.int .i64) 3 true, .pv (.int .i64), .pv (.int .i64)], []⟩
def k_slices_breakPatternsOrdered_609_ret : Sh := ⟨[.tup [], .mtk 800000 (.int .i64) 3 true], []⟩
def k_slices_breakPatternsOrdered_609_s1 : Sh := ⟨[.mtk 800000 (.int .i64) 3 true, .pv (.int .i64), .dead, .dead, .dead, .dead, .pv (.int .i64), .box 7 0, .pv (.int .u64), .pv (.int .i64), .dead, .dead, .dead, .dead, .dead, .dead, .dead, .dead, .dead, .dead, .dead, .dead, .dead, .dead, .dead, .dead, .dead, .dead, .dead, .dead, .dead, .dead, .dead, .dead, .dead, .dead, .dead, .dead, .dead, .dead, .dead, .dead, .dead, .dead, .dead, .dead, .dead, .dead, .dead, .dead, .dead, .dead, .dead, .dead, .dead, .dead, .dead, .dead, .dead, .dead, .dead, .dead, .dead, .dead, .dead], [(7, false, [.pv (.int .u64)])]⟩
def k_slices_breakPatternsOrdered_609_s2 : Sh := ⟨[.mtk 800000 (.int .i64) 3 true, .pv (.int .i64), .dead, .dead, .dead, .dead, .pv (.int .i64), .box 7 0, .pv (.int .u64), .pv (.int .i64), .pv (.int .i64), .dead, .dead, .dead, .dead, .dead, .dead, .dead, .dead, .dead, .dead, .dead, .dead, .dead, .dead, .dead, .dead, .dead, .dead, .dead, .dead, .dead, .dead, .dead, .dead, .dead, .dead, .dead, .dead, .dead, .dead, .dead, .dead, .dead, .dead, .dead, .dead, .dead, .dead, .dead, .dead, .dead, .dead, .dead, .dead, .dead, .dead, .dead, .dead, .dead, .dead, .dead, .dead, .dead, .dead], [(7, false, [.pv (.int .u64)])]⟩
def k_slices_breakPatternsOrdered_609_h : Hint := (.seq .no (.seq .no (.cond (.seq .no (.seq .no (.seq .no (.block (.loop k_slices_breakPatternsOrdered_609_s1 (.seq .no (.seq (.block (.seq .no (.meet k_slices_breakPatternsOrdered_609_s2 .no .no))) .no))))))) .no)))
def k_slices_breakPatternsOrdered_609_m (N : Nat) (data : List Int) (a : Int) (b : Int) : Option ((List Int)) :=
 (if fits (b - a) then (bif (decide ((8 : Int) ≤ (b - a))) then
 (Option.bind (k_slices_nextPowerOfTwo_m N (b - a)) fun (r : Int) =>
 (if 4 ≠ 0 then
 (if fits ((b - a).tdiv 4) then (if fits (((b - a).tdiv 4) * 2) then (if fits (a + (((b - a).tdiv 4) * 2)) then (if fits ((a + (((b - a).tdiv 4) * 2)) - 1) then (iter (fun (go : ((List Int) × Int × Int × Int × Int × Int) → Option ((List Int))) (g : (List Int) × Int × Int × Int × Int × Int) =>
 match g with
 | (data2, a2, length, modulus, idx0, random) =>
 (if 4 ≠ 0 then
 (if fits (length.tdiv 4) then (if fits ((length.tdiv 4) * 2) then (if fits (a2 + ((length.tdiv 4) * 2)) then (if fits ((a2 + ((length.tdiv 4) * 2)) + 1) then (bif (decide (idx0 ≤ ((a2 + ((length.tdiv 4) * 2)) + 1))) then
 (Option.bind (k__slices_xorshift_Next_m N random) fun (r2 : Int × Int) =>
 (meet (fun (g : (List Int) × Int × Int × Int × Int × Int × Int) =>
 match g with
 | (data3, a3, length2, modulus2, idx02, other, random2) =>
 (if fits (a3 + other) then (if fits (a3 + other) then (if 0 ≤ (a3 + other) ∧ (a3 + other) < (data3.length : Int) then
 (Option.bind (data3[(a3 + other).toNat]?) fun (e : Int) =>
 (if 0 ≤ idx02 ∧ idx02 < (data3.length : Int) then
 (Option.bind (data3[idx02.toNat]?) fun (e2 : Int) =>
 (if 0 ≤ idx02 ∧ idx02 < (data3.length : Int) then
 (Option.bind (data3[idx02.toNat]?) fun (e3 : Int) =>
 (if 0 ≤ (a3 + other) ∧ (a3 + other) < ((data3.set idx02.toNat e).length : Int) then
 (Option.bind ((data3.set idx02.toNat e)[(a3 + other).toNat]?) fun (e4 : Int) =>
 (if fits (idx02 + 1) then (go (((data3.set idx02.toNat e).set (a3 + other).toNat e2), a3, length2, modulus2, (idx02 + 1), random2)) else none))
 else none))
 else none))
 else none))
 else none) else none) else none)) fun (J : ((List Int) × Int × Int × Int × Int × Int × Int) → Option ((List Int))) =>
 (bif (decide (length ≤ (IntKind.i64.wrap (bitsI .and .u64 r2.1 (IntKind.u64.wrap (modulus - 1)))))) then
 (if fits ((IntKind.i64.wrap (bitsI .and .u64 r2.1 (IntKind.u64.wrap (modulus - 1)))) - length) then (J (data2, a2, length, modulus, idx0, ((IntKind.i64.wrap (bitsI .and .u64 r2.1 (IntKind.u64.wrap (modulus - 1)))) - length), r2.2)) else none)
 else
 (J (data2, a2, length, modulus, idx0, (IntKind.i64.wrap (bitsI .and .u64 r2.1 (IntKind.u64.wrap (modulus - 1)))), r2.2)))))
 else
 (some data2)) else none) else none) else none) else none)
 else none)) N (data, a, (b - a), r, ((a + (((b - a).tdiv 4) * 2)) - 1), (IntKind.u64.wrap (b - a)))) else none) else none) else none) else none)
 else none))
 else
 (some data)) else none)
def k_slices_breakPatternsOrdered_609_M (N : Nat) : Model := ⟨k_slices_breakPatternsOrdered_609_arg, k_slices_breakPatternsOrdered_609_ret, fun a => k_slices_breakPatternsOrdered_609_m N a.1 a.2.1 a.2.2⟩
set_option maxRecDepth 1000000 in
theorem k_slices_breakPatternsOrdered_609_ok (N : Nat) : ModelOk Try.prog 64 (k_slices_breakPatternsOrdered_609_M N) :=
  modelOk_of (E := mkEnv [(79, k_slices_nextPowerOfTwo_M N), (80, k__slices_xorshift_Next_M N)] [] [800000]) (mkEnv_ok (fnsOk_cons (k_slices_nextPowerOfTwo_ok N) (fnsOk_cons (k__slices_xorshift_Next_ok N) fnsOk_nil)) _ _) Try.func64 (by kernel_rfl) rfl N k_slices_breakPatternsOrdered_609_h (k_slices_breakPatternsOrdered_609_M N) (by kernel_rfl) (by kernel_rfl) (fun a => by kernel_rfl)
/-! slices.order2Ordered[int] -/
def k_slices_order2Ordered_48_arg : Sh := ⟨[.mtk 800000 (.int .i64) 3 true, .pv (.int .i64), .pv (.int .i64), .box 900003 0], [(900003, false, [.pv (.int .i64)])]⟩
def k_slices_order2Ordered_48_ret : Sh := ⟨[.tup [.pv (.int .i64), .pv (.int .i64)], .mtk 800000 (.int .i64) 3 true], [(900003, false, [.pv (.int .i64)])]⟩
def k_slices_order2Ordered_48_h : Hint := .no
def k_slices_order2Ordered_48_m (N : Nat) (data : List Int) (a : Int) (b : Int) (b2 : Int) : Option (Int × Int × (List Int) × Int) :=
 (if 0 ≤ b ∧ b < (data.length : Int) then
 (Option.bind (data[b.toNat]?) fun (e : Int) =>
 (if 0 ≤ a ∧ a < (data.length : Int) then
 (Option.bind (data[a.toNat]?) fun (e2 : Int) =>
 (Option.bind (k_cmp_Less_67_m N e e2) fun (r : Bool) =>
 (bif r then
 (if fits (b2 + 1) then (some (b, a, data, (b2 + 1))) else none)
 else
 (some (a, b, data, b2)))))
 else none))
 else none)
def k_slices_order2Ordered_48_M (N : Nat) : Model := ⟨k_slices_order2Ordered_48_arg, k_slices_order2Ordered_48_ret, fun a => k_slices_order2Ordered_48_m N a.1 a.2.1 a.2.2.1 a.2.2.2⟩
set_option maxRecDepth 1000000 in
theorem k_slices_order2Ordered_48_ok (N : Nat) : ModelOk Try.prog 88 (k_slices_order2Ordered_48_M N) :=
  modelOk_of (E := mkEnv [(68, k_cmp_Less_67_M N)] [] [900003, 800000]) (mkEnv_ok (fnsOk_cons (k_cmp_Less_67_ok N) fnsOk_nil) _ _) Try.func88 (by kernel_rfl) rfl N k_slices_order2Ordered_48_h (k_slices_order2Ordered_48_M N) (by kernel_rfl) (by kernel_rfl) (fun a => by kernel_rfl)
/-! slices.medianOrdered[int] -/
def k_slices_medianOrdered_892_arg : Sh := ⟨[.mtk 800000 (.int .i64) 3 true, .pv (.int .i64), .pv (.int .i64), .pv (.int .i64), .box 900004 0], [(900004, false, [.pv (.int .i64)])]⟩
def k_slices_medianOrdered_892_ret : Sh := ⟨[.pv (.int .i64), .mtk 800000 (.int .i64) 3 true], [(900004, false, [.pv (.int .i64)])]⟩
def k_slices_medianOrdered_892_h : Hint := .no
def k_slices_medianOrdered_892_m (N : Nat) (data : List Int) (a : Int) (b : Int) (c : Int) (b2 : Int) : Option (Int × (List Int) × Int) :=
 (Option.bind (k_slices_order2Ordered_48_m N data a b b2) fun (r : Int × Int × (List Int) × Int) =>
 (Option.bind (k_slices_order2Ordered_48_m N r.2.2.1 r.2.1 c r.2.2.2) fun (r2 : Int × Int × (List Int) × Int) =>
 (Option.bind (k_slices_order2Ordered_48_m N r2.2.2.1 r.1 r2.1 r2.2.2.2) fun (r3 : Int × Int × (List Int) × Int) =>
 (some (r3.2.1, r3.2.2.1, r3.2.2.2)))))
def k_slices_medianOrdered_892_M (N : Nat) : Model := ⟨k_slices_medianOrdered_892_arg, k_slices_medianOrdered_892_ret, fun a => k_slices_medianOrdered_892_m N a.1 a.2.1 a.2.2.1 a.2.2.2.1 a.2.2.2.2⟩
set_option maxRecDepth 1000000 in
theorem k_slices_medianOrdered_892_ok (N : Nat) : ModelOk Try.prog 82 (k_slices_medianOrdered_892_M N) :=
  modelOk_of (E := mkEnv [(88, k_slices_order2Ordered_48_M N)] [] [900004, 800000]) (mkEnv_ok (fnsOk_cons (k_slices_order2Ordered_48_ok N) fnsOk_nil) _ _) Try.func82 (by kernel_rfl) rfl N k_slices_medianOrdered_892_h (k_slices_medianOrdered_892_M N) (by kernel_rfl) (by kernel_rfl) (fun a => by kernel_rfl)
/-! slices.medianAdjacentOrdered[int] -/
def k_slices_medianAdjacentOrdered_330_arg : Sh := ⟨[.mtk 800000 (.int .i64) 3 true, .pv (.int .i64), .box 900002 0], [(900002, false, [.pv (.int .i64)])]⟩
def k_slices_medianAdjacentOrdered_330_ret : Sh := ⟨[.pv (.int .i64), .mtk 800000 (.int .i64) 3 true], [(900002, false, [.pv (.int .i64)])]⟩
def k_slices_medianAdjacentOrdered_330_h : Hint := .no
def k_slices_medianAdjacentOrdered_330_m (N : Nat) (data : List Int) (a : Int) (b : Int) : Option (Int × (List Int) × Int) :=
 (if fits (a - 1) then (if fits (a + 1) then (Option.bind (k_slices_medianOrdered_892_m N data (a - 1) a (a + 1) b) fun (r : Int × (List Int) × Int) =>
 (some (r.1, r.2.1, r.2.2))) else none) else none)
def k_slices_medianAdjacentOrdered_330_M (N : Nat) : Model := ⟨k_slices_medianAdjacentOrdered_330_arg, k_slices_medianAdjacentOrdered_330_ret, fun a => k_slices_medianAdjacentOrdered_330_m N a.1 a.2.1 a.2.2⟩
set_option maxRecDepth 1000000 in
theorem k_slices_medianAdjacentOrdered_330_ok (N : Nat) : ModelOk Try.prog 81 (k_slices_medianAdjacentOrdered_330_M N) :=
  modelOk_of (E := mkEnv [(82, k_slices_medianOrdered_892_M N)] [] [900002, 800000]) (mkEnv_ok (fnsOk_cons (k_slices_medianOrdered_892_ok N) fnsOk_nil) _ _) Try.func81 (by kernel_rfl) rfl N k_slices_medianAdjacentOrdered_330_h (k_slices_medianAdjacentOrdered_330_M N) (by kernel_rfl) (by kernel_rfl) (fun a => by kernel_rfl)
/-! slices.choosePivotOrdered[int] -/
def k_slices_choosePivotOrdered_921_arg : Sh := ⟨[.mtk 800000 (.int .i64) 3 true, .pv (.int .i64), .pv (.int .i64)], []⟩
def k_slices_choosePivotOrdered_921_ret : Sh := ⟨[.tup [.pv (.int .i64), .pv (.int .i64)], .mtk 800000 (.int .i64) 3 true], []⟩
def k_slices_choosePivotOrdered_921_s1 : Sh := ⟨[.mtk 800000 (.int .i64) 3 true, .dead, .dead, .dead, .dead, .dead, .dead, .dead, .dead, .box 9 0, .pv (.int .i64), .pv (.int .i64), .pv (.int .i64), .dead, .dead, .dead, .dead, .dead, .dead, .dead, .dead, .dead, .dead, .dead, .dead, .dead, .dead, .dead, .dead, .dead, .dead, .dead, .dead, .dead, .dead, .dead, .dead, .dead, .dead, .dead, .dead, .dead, .dead, .dead, .dead, .dead, .dead, .dead, .dead, .dead, .dead, .dead, .dead, .dead, .dead, .dead, .dead], [(9, false, [.pv (.int .i64)])]⟩
def k_slices_choosePivotOrdered_921_s2 : Sh := ⟨[.mtk 800000 (.int .i64) 3 true, .dead, .dead, .dead, .dead, .dead, .dead, .dead, .dead, .box 9 0, .dead, .pv (.int .i64), .dead, .dead, .dead, .dead, .dead, .dead, .dead, .dead, .dead, .dead, .dead, .dead, .dead, .dead, .dead, .dead, .dead, .dead, .dead, .dead, .dead, .dead, .dead, .dead, .dead, .dead, .dead, .dead, .dead, .dead, .dead, .dead, .dead, .dead, .dead, .dead, .dead, .dead, .dead, .dead, .dead, .dead, .dead, .dead, .dead], [(9, false, [.pv (.int .i64)])]⟩
def k_slices_choosePivotOrdered_921_h : Hint := (.seq .no (.seq .no (.seq .no (.seq .no (.seq .no (.seq .no (.meet k_slices_choosePivotOrdered_921_s2 (.seq .no (.cond (.meet k_slices_choosePivotOrdered_921_s1 .no .no) .no)) .no)))))))
def k_slices_choosePivotOrdered_921_m (N : Nat) (data : List Int) (a : Int) (b : Int) : Option (Int × Int × (List Int)) :=
 (if fits (b - a) then (if 4 ≠ 0 then
 (if fits ((b - a).tdiv 4) then (if fits (((b - a).tdiv 4) * 1) then (if fits (a + (((b - a).tdiv 4) * 1)) then (if 4 ≠ 0 then
 (if fits ((b - a).tdiv 4) then (if fits (((b - a).tdiv 4) * 2) then (if fits (a + (((b - a).tdiv 4) * 2)) then (if 4 ≠ 0 then
 (if fits ((b - a).tdiv 4) then (if fits (((b - a).tdiv 4) * 3) then (if fits (a + (((b - a).tdiv 4) * 3)) then (meet (fun (g : (List Int) × Int × Int) =>
 match g with
 | (data3, j2, swaps2) =>
 (bif (decide (swaps2 = 0)) then
 (some (j2, 1, data3))
 else
 (bif (decide (swaps2 = 12)) then
 (some (j2, 2, data3))
 else
 (some (j2, 0, data3))))) fun (J : ((List Int) × Int × Int) → Option (Int × Int × (List Int))) =>
 (bif (decide ((8 : Int) ≤ (b - a))) then
 (meet (fun (g : (List Int) × Int × Int × Int × Int) =>
 match g with
 | (data2, i, j, k, swaps) =>
 (Option.bind (k_slices_medianOrdered_892_m N data2 i j k swaps) fun (r4 : Int × (List Int) × Int) =>
 (J (r4.2.1, r4.1, r4.2.2)))) fun (J2 : ((List Int) × Int × Int × Int × Int) → Option (Int × Int × (List Int))) =>
 (bif (decide ((50 : Int) ≤ (b - a))) then
 (Option.bind (k_slices_medianAdjacentOrdered_330_m N data (a + (((b - a).tdiv 4) * 1)) 0) fun (r : Int × (List Int) × Int) =>
 (Option.bind (k_slices_medianAdjacentOrdered_330_m N r.2.1 (a + (((b - a).tdiv 4) * 2)) r.2.2) fun (r2 : Int × (List Int) × Int) =>
 (Option.bind (k_slices_medianAdjacentOrdered_330_m N r2.2.1 (a + (((b - a).tdiv 4) * 3)) r2.2.2) fun (r3 : Int × (List Int) × Int) =>
 (J2 (r3.2.1, r.1, r2.1, r3.1, r3.2.2)))))
 else
 (J2 (data, (a + (((b - a).tdiv 4) * 1)), (a + (((b - a).tdiv 4) * 2)), (a + (((b - a).tdiv 4) * 3)), 0))))
 else
 (J (data, (a + (((b - a).tdiv 4) * 2)), 0)))) else none) else none) else none)
 else none) else none) else none) else none)
 else none) else none) else none) else none)
 else none) else none)
def k_slices_choosePivotOrdered_921_M (N : Nat) : Model := ⟨k_slices_choosePivotOrdered_921_arg, k_slices_choosePivotOrdered_921_ret, fun a => k_slices_choosePivotOrdered_921_m N a.1 a.2.1 a.2.2⟩
set_option maxRecDepth 1000000 in
theorem k_slices_choosePivotOrdered_921_ok (N : Nat) : ModelOk Try.prog 65 (k_slices_choosePivotOrdered_921_M N) :=
  modelOk_of (E := mkEnv [(81, k_slices_medianAdjacentOrdered_330_M N), (82, k_slices_medianOrdered_892_M N)] [] [800000]) (mkEnv_ok (fnsOk_cons (k_slices_medianAdjacentOrdered_330_ok N) (fnsOk_cons (k_slices_medianOrdered_892_ok N) fnsOk_nil)) _ _) Try.func65 (by kernel_rfl) rfl N k_slices_choosePivotOrdered_921_h (k_slices_choosePivotOrdered_921_M N) (by kernel_rfl) (by kernel_rfl) (fun a => by kernel_rfl)
/-! slices.reverseRangeOrdered[int] -/
def k_slices_reverseRangeOrdered_43_arg : Sh := ⟨[.mtk 800000 (.int .i64) 3 true, .pv (.int .i64), .pv (.int .i64)], []⟩
def k_slices_reverseRangeOrdered_43_ret : Sh := ⟨[.tup [], .mtk 800000 (.int .i64) 3 true], []⟩
def k_slices_reverseRangeOrdered_43_s1 : Sh := ⟨[.mtk 800000 (.int .i64) 3 true, .dead, .dead, .dead, .dead, .dead, .pv (.int .i64), .pv (.int .i64), .dead, .dead, .dead, .dead, .dead, .dead, .dead, .dead, .dead, .dead, .dead, .dead, .dead, .dead, .dead, .dead, .dead, .dead, .dead, .dead, .dead, .dead, .dead, .dead], []⟩
def k_slices_reverseRangeOrdered_43_h : Hint := (.seq .no (.seq .no (.block (.loop k_slices_reverseRangeOrdered_43_s1 .no))))
def k_slices_reverseRangeOrdered_43_m (N : Nat) (data : List Int) (a : Int) (b : Int) : Option ((List Int)) :=
 (if fits (b - 1) then (iter (fun (go : ((List Int) × Int × Int) → Option ((List Int))) (g : (List Int) × Int × Int) =>
 match g with
 | (data2, i, j) =>
 (bif (decide (i < j)) then
 (if 0 ≤ j ∧ j < (data2.length : Int) then
 (Option.bind (data2[j.toNat]?) fun (e : Int) =>
 (if 0 ≤ i ∧ i < (data2.length : Int) then
 (Option.bind (data2[i.toNat]?) fun (e2 : Int) =>
 (if 0 ≤ i ∧ i < (data2.length : Int) then
 (Option.bind (data2[i.toNat]?) fun (e3 : Int) =>
 (if 0 ≤ j ∧ j < ((data2.set i.toNat e).length : Int) then
 (Option.bind ((data2.set i.toNat e)[j.toNat]?) fun (e4 : Int) =>
 (if fits (i + 1) then (if fits (j - 1) then (go (((data2.set i.toNat e).set j.toNat e2), (i + 1), (j - 1))) else none) else none))
 else none))
 else none))
 else none))
 else none)
 else
 (some data2))) N (data, a, (b - 1))) else none)
def k_slices_reverseRangeOrdered_43_M (N : Nat) : Model := ⟨k_slices_reverseRangeOrdered_43_arg, k_slices_reverseRangeOrdered_43_ret, fun a => k_slices_reverseRangeOrdered_43_m N a.1 a.2.1 a.2.2⟩
set_option maxRecDepth 1000000 in
theorem k_slices_reverseRangeOrdered_43_ok (N : Nat) : ModelOk Try.prog 66 (k_slices_reverseRangeOrdered_43_M N) :=
  modelOk_of (E := mkEnv [] [] [800000]) (mkEnv_ok fnsOk_nil _ _) Try.func66 (by kernel_rfl) rfl N k_slices_reverseRangeOrdered_43_h (k_slices_reverseRangeOrdered_43_M N) (by kernel_rfl) (by kernel_rfl) (fun a => by kernel_rfl)
/-! slices.partialInsertionSortOrdered[int] -/
def k_slices_partialInsertionSortOrdered_987_arg : Sh := ⟨[.mtk 800000 (.int .i64) 3 true, .pv (.int .i64), .pv (.int .i64)], []⟩
def k_slices_partialInsertionSortOrdered_987_ret : Sh := ⟨[.pv .bool, .mtk 800000 (.int .i64) 3 true], []⟩
def k_slices_partialInsertionSortOrdered_987_s1 : Sh := ⟨[.mtk 800000 (.int .i64) 3 true, .pv (.int .i64), .pv (.int .i64), .dead, .dead, .dead, .dead, .pv (.int .i64), .pv (.int .i64), .dead, .dead, .dead, .dead, .dead, .dead, .dead, .dead, .dead, .dead, .dead, .dead, .dead, .dead, .dead, .dead, .dead, .dead, .dead, .dead, .dead, .dead, .dead, .dead, .dead, .dead, .dead, .dead, .dead, .dead, .dead, .dead, .dead, .dead, .dead, .dead, .dead, .dead, .dead, .dead, .dead, .dead, .dead, .dead, .dead, .dead, .dead, .dead, .dead, .dead, .dead, .dead, .dead, .dead, .dead, .dead, .dead, .dead, .dead, .dead, .dead, .dead, .dead, .dead, .dead, .dead, .dead, .dead, .dead, .dead, .dead, .dead, .dead, .dead, .dead, .dead, .dead, .dead, .dead, .dead, .dead, .dead, .dead, .dead, .dead, .dead, .dead, .dead, .dead, .dead, .dead, .dead, .dead, .dead, .dead, .dead, .dead, .dead, .dead, .dead, .dead, .dead, .dead, .dead, .dead, .dead, .dead, .dead, .dead, .dead, .dead, .dead, .dead, .dead, .dead, .dead, .dead, .dead, .dead, .dead, .dead, .dead, .dead, .dead], []⟩
def k_slices_partialInsertionSortOrdered_987_s2 : Sh := ⟨[.mtk 800000 (.int .i64) 3 true, .pv (.int .i64), .pv (.int .i64), .dead, .dead, .dead, .dead, .pv (.int .i64), .pv (.int .i64), .dead, .dead, .dead, .dead, .dead, .dead, .dead, .dead, .dead, .dead, .dead, .dead, .dead, .dead, .dead, .dead, .dead, .dead, .dead, .dead, .dead, .dead, .dead, .dead, .dead, .dead, .dead, .dead, .dead, .dead, .dead, .dead, .dead, .dead, .dead, .dead, .dead, .dead, .dead, .dead, .dead, .dead, .dead, .dead, .dead, .dead, .dead, .dead, .dead, .dead, .dead, .dead, .dead, .dead, .dead, .dead, .dead, .dead, .dead, .dead, .dead, .dead, .dead, .dead, .dead, .dead, .dead, .dead, .dead, .dead, .dead, .dead, .dead, .dead, .dead, .dead, .dead, .dead, .dead, .dead, .dead, .dead, .dead, .dead, .dead, .dead, .dead, .dead, .dead, .dead, .dead, .dead, .dead, .dead, .dead, .dead, .dead, .dead, .dead, .dead, .dead, .dead, .dead, .dead, .dead, .dead, .dead, .dead, .dead, .dead, .dead, .dead, .dead, .dead, .dead, .dead, .dead, .dead, .dead, .dead, .dead, .dead, .dead, .dead], []⟩
def k_slices_partialInsertionSortOrdered_987_s3 : Sh := ⟨[.mtk 800000 (.int .i64) 3 true, .pv (.int .i64), .pv (.int .i64), .dead, .dead, .dead, .dead, .pv (.int .i64), .pv (.int .i64), .pv (.int .i64), .dead, .dead, .dead, .dead, .dead, .dead, .dead, .dead, .dead, .dead, .dead, .dead, .dead, .dead, .dead, .dead, .dead, .dead, .dead, .dead, .dead, .dead, .dead, .dead, .dead, .dead, .dead, .dead, .dead, .dead, .dead, .dead, .dead, .dead, .dead, .dead, .dead, .dead, .dead, .dead, .dead, .dead, .dead, .dead, .dead, .dead, .dead, .dead, .dead, .dead, .dead, .dead, .dead, .dead, .dead, .dead, .dead, .dead, .dead, .dead, .dead, .dead, .dead, .dead, .dead, .dead, .dead, .dead, .dead, .dead, .dead, .dead, .dead, .dead, .dead, .dead, .dead, .dead, .dead, .dead, .dead, .dead, .dead, .dead, .dead, .dead, .dead, .dead, .dead, .dead, .dead, .dead, .dead, .dead, .dead, .dead, .dead, .dead, .dead, .dead, .dead, .dead, .dead, .dead, .dead, .dead, .dead, .dead, .dead, .dead, .dead, .dead, .dead, .dead, .dead, .dead, .dead, .dead, .dead, .dead, .dead, .dead, .dead], []⟩
def k_slices_partialInsertionSortOrdered_987_s4 : Sh := ⟨[.mtk 800000 (.int .i64) 3 true, .pv (.int .i64), .pv (.int .i64), .dead, .dead, .dead, .dead, .pv (.int .i64), .pv (.int .i64), .dead, .pv (.int .i64), .dead, .dead, .dead, .dead, .dead, .dead, .dead, .dead, .dead, .dead, .dead, .dead, .dead, .dead, .dead, .dead, .dead, .dead, .dead, .dead, .dead, .dead, .dead, .dead, .dead, .dead, .dead, .dead, .dead, .dead, .dead, .dead, .dead, .dead, .dead, .dead, .dead, .dead, .dead, .dead, .dead, .dead, .dead, .dead, .dead, .dead, .dead, .dead, .dead, .dead, .dead, .dead, .dead, .dead, .dead, .dead, .dead, .dead, .dead, .dead, .dead, .dead, .dead, .dead, .dead, .dead, .dead, .dead, .dead, .dead, .dead, .dead, .dead, .dead, .dead, .dead, .dead, .dead, .dead, .dead, .dead, .dead, .dead, .dead, .dead, .dead, .dead, .dead, .dead, .dead, .dead, .dead, .dead, .dead, .dead, .dead, .dead, .dead, .dead, .dead, .dead, .dead, .dead, .dead, .dead, .dead, .dead, .dead, .dead, .dead, .dead, .dead, .dead, .dead, .dead, .dead, .dead, .dead, .dead, .dead, .dead, .dead], []⟩
def k_slices_partialInsertionSortOrdered_987_s5 : Sh := ⟨[.mtk 800000 (.int .i64) 3 true, .pv (.int .i64), .pv (.int .i64), .dead, .dead, .dead, .dead, .pv (.int .i64), .pv (.int .i64), .dead, .dead, .dead, .dead, .dead, .dead, .dead, .dead, .dead, .dead, .dead, .dead, .dead, .dead, .dead, .dead, .dead, .dead, .dead, .dead, .dead, .dead, .dead, .dead, .dead, .dead, .dead, .dead, .dead, .dead, .dead, .dead, .dead, .dead, .dead, .dead, .dead, .dead, .dead, .dead, .dead, .dead, .dead, .dead, .dead, .dead, .dead, .dead, .dead, .dead, .dead, .dead, .dead, .dead, .dead, .dead, .dead, .dead, .dead, .dead, .dead, .dead, .dead, .dead, .dead, .dead, .dead, .dead, .dead, .dead, .dead, .dead, .dead, .dead, .dead, .dead, .dead, .dead, .dead, .dead, .dead, .dead, .dead, .dead, .dead, .dead, .dead, .dead, .dead, .dead, .dead, .dead, .dead, .dead, .dead, .dead, .dead, .dead, .dead, .dead, .dead, .dead, .dead, .dead, .dead, .dead, .dead, .dead, .dead, .dead, .dead, .dead, .dead, .dead, .dead, .dead, .dead, .dead, .dead, .dead, .dead, .dead, .dead, .dead], []⟩
def k_slices_partialInsertionSortOrdered_987_h : Hint := (.seq .no (.seq .no (.seq (.seq .no (.block (.loop k_slices_partialInsertionSortOrdered_987_s1 (.seq .no (.seq (.block (.seq (.block (.loop k_slices_partialInsertionSortOrdered_987_s2 .no)) (.seq .no (.seq .no (.seq .no (.meet k_slices_partialInsertionSortOrdered_987_s5 (.seq .no (.cond (.seq .no (.block (.loop k_slices_partialInsertionSortOrdered_987_s3 .no))) .no)) (.seq .no (.cond (.seq .no (.block (.loop k_slices_partialInsertionSortOrdered_987_s4 .no))) .no)))))))) .no))))) .no)))
def k_slices_partialInsertionSortOrdered_987_m (N : Nat) (data : List Int) (a : Int) (b : Int) : Option (Bool × (List Int)) :=
 (if fits (a + 1) then (iter (fun (go : ((List Int) × Int × Int × Int × Int) → Option (Bool × (List Int))) (g : (List Int) × Int × Int × Int × Int) =>
 match g with
 | (data2, a2, b2, i, j) =>
 (bif (decide (j < 5)) then
 (iter (fun (go2 : ((List Int) × Int × Int × Int × Int) → Option (Bool × (List Int))) (g : (List Int) × Int × Int × Int × Int) =>
 match g with
 | (data3, a3, b3, i2, j2) =>
 (bif (decide (i2 < b3)) then
 (if 0 ≤ i2 ∧ i2 < (data3.length : Int) then
 (Option.bind (data3[i2.toNat]?) fun (e : Int) =>
 (if fits (i2 - 1) then (if 0 ≤ (i2 - 1) ∧ (i2 - 1) < (data3.length : Int) then
 (Option.bind (data3[(i2 - 1).toNat]?) fun (e2 : Int) =>
 (Option.bind (k_cmp_Less_67_m N e e2) fun (r : Bool) =>
 (bif (!r) then
 (if fits (i2 + 1) then (go2 (data3, a3, b3, (i2 + 1), j2)) else none)
 else
 (bif (decide (i2 = b3)) then
 (some (true, data3))
 else
 (if fits (b3 - a3) then (bif (decide ((b3 - a3) < 50)) then
 (some (false, data3))
 else
 (if fits (i2 - 1) then (if fits (i2 - 1) then (if 0 ≤ (i2 - 1) ∧ (i2 - 1) < (data3.length : Int) then
 (Option.bind (data3[(i2 - 1).toNat]?) fun (e3 : Int) =>
 (if 0 ≤ i2 ∧ i2 < (data3.length : Int) then
 (Option.bind (data3[i2.toNat]?) fun (e4 : Int) =>
 (if 0 ≤ i2 ∧ i2 < (data3.length : Int) then
 (Option.bind (data3[i2.toNat]?) fun (e5 : Int) =>
 (if 0 ≤ (i2 - 1) ∧ (i2 - 1) < ((data3.set i2.toNat e3).length : Int) then
 (Option.bind ((data3.set i2.toNat e3)[(i2 - 1).toNat]?) fun (e6 : Int) =>
 (meet (fun (g : (List Int) × Int × Int × Int × Int) =>
 match g with
 | (data5, a5, b5, i4, j5) =>
 (if fits (b5 - i4) then (bif (decide ((2 : Int) ≤ (b5 - i4))) then
 (if fits (i4 + 1) then (iter (fun (go4 : ((List Int) × Int × Int × Int × Int × Int) → Option (Bool × (List Int))) (g : (List Int) × Int × Int × Int × Int × Int) =>
 match g with
 | (data6, a6, b6, i5, j6, j7) =>
 (bif (decide (j7 < b6)) then
 (if 0 ≤ j7 ∧ j7 < (data6.length : Int) then
 (Option.bind (data6[j7.toNat]?) fun (e13 : Int) =>
 (if fits (j7 - 1) then (if 0 ≤ (j7 - 1) ∧ (j7 - 1) < (data6.length : Int) then
 (Option.bind (data6[(j7 - 1).toNat]?) fun (e14 : Int) =>
 (Option.bind (k_cmp_Less_67_m N e13 e14) fun (r3 : Bool) =>
 (bif (!r3) then
 (if fits (j6 + 1) then (go (data6, a6, b6, i5, (j6 + 1))) else none)
 else
 (if fits (j7 - 1) then (if fits (j7 - 1) then (if 0 ≤ (j7 - 1) ∧ (j7 - 1) < (data6.length : Int) then
 (Option.bind (data6[(j7 - 1).toNat]?) fun (e15 : Int) =>
 (if 0 ≤ j7 ∧ j7 < (data6.length : Int) then
 (Option.bind (data6[j7.toNat]?) fun (e16 : Int) =>
 (if 0 ≤ j7 ∧ j7 < (data6.length : Int) then
 (Option.bind (data6[j7.toNat]?) fun (e17 : Int) =>
 (if 0 ≤ (j7 - 1) ∧ (j7 - 1) < ((data6.set j7.toNat e15).length : Int) then
 (Option.bind ((data6.set j7.toNat e15)[(j7 - 1).toNat]?) fun (e18 : Int) =>
 (if fits (j7 + 1) then (go4 (((data6.set j7.toNat e15).set (j7 - 1).toNat e16), a6, b6, i5, j6, (j7 + 1))) else none))
 else none))
 else none))
 else none))
 else none) else none) else none))))
 else none) else none))
 else none)
 else
 (if fits (j6 + 1) then (go (data6, a6, b6, i5, (j6 + 1))) else none))) N (data5, a5, b5, i4, j5, (i4 + 1))) else none)
 else
 (if fits (j5 + 1) then (go (data5, a5, b5, i4, (j5 + 1))) else none)) else none)) fun (J : ((List Int) × Int × Int × Int × Int) → Option (Bool × (List Int))) =>
 (if fits (i2 - a3) then (bif (decide ((2 : Int) ≤ (i2 - a3))) then
 (if fits (i2 - 1) then (iter (fun (go3 : ((List Int) × Int × Int × Int × Int × Int) → Option (Bool × (List Int))) (g : (List Int) × Int × Int × Int × Int × Int) =>
 match g with
 | (data4, a4, b4, i3, j3, j4) =>
 (bif (decide ((1 : Int) ≤ j4)) then
 (if 0 ≤ j4 ∧ j4 < (data4.length : Int) then
 (Option.bind (data4[j4.toNat]?) fun (e7 : Int) =>
 (if fits (j4 - 1) then (if 0 ≤ (j4 - 1) ∧ (j4 - 1) < (data4.length : Int) then
 (Option.bind (data4[(j4 - 1).toNat]?) fun (e8 : Int) =>
 (Option.bind (k_cmp_Less_67_m N e7 e8) fun (r2 : Bool) =>
 (bif (!r2) then
 (J (data4, a4, b4, i3, j3))
 else
 (if fits (j4 - 1) then (if fits (j4 - 1) then (if 0 ≤ (j4 - 1) ∧ (j4 - 1) < (data4.length : Int) then
 (Option.bind (data4[(j4 - 1).toNat]?) fun (e9 : Int) =>
 (if 0 ≤ j4 ∧ j4 < (data4.length : Int) then
 (Option.bind (data4[j4.toNat]?) fun (e10 : Int) =>
 (if 0 ≤ j4 ∧ j4 < (data4.length : Int) then
 (Option.bind (data4[j4.toNat]?) fun (e11 : Int) =>
 (if 0 ≤ (j4 - 1) ∧ (j4 - 1) < ((data4.set j4.toNat e9).length : Int) then
 (Option.bind ((data4.set j4.toNat e9)[(j4 - 1).toNat]?) fun (e12 : Int) =>
 (if fits (j4 - 1) then (go3 (((data4.set j4.toNat e9).set (j4 - 1).toNat e10), a4, b4, i3, j3, (j4 - 1))) else none))
 else none))
 else none))
 else none))
 else none) else none) else none))))
 else none) else none))
 else none)
 else
 (J (data4, a4, b4, i3, j3)))) N (((data3.set i2.toNat e3).set (i2 - 1).toNat e4), a3, b3, i2, j2, (i2 - 1))) else none)
 else
 (J (((data3.set i2.toNat e3).set (i2 - 1).toNat e4), a3, b3, i2, j2))) else none)))
 else none))
 else none))
 else none))
 else none) else none) else none)) else none)))))
 else none) else none))
 else none)
 else
 (bif (decide (i2 = b3)) then
 (some (true, data3))
 else
 (if fits (b3 - a3) then (bif (decide ((b3 - a3) < 50)) then
 (some (false, data3))
 else
 (if fits (i2 - 1) then (if fits (i2 - 1) then (if 0 ≤ (i2 - 1) ∧ (i2 - 1) < (data3.length : Int) then
 (Option.bind (data3[(i2 - 1).toNat]?) fun (e19 : Int) =>
 (if 0 ≤ i2 ∧ i2 < (data3.length : Int) then
 (Option.bind (data3[i2.toNat]?) fun (e20 : Int) =>
 (if 0 ≤ i2 ∧ i2 < (data3.length : Int) then
 (Option.bind (data3[i2.toNat]?) fun (e21 : Int) =>
 (if 0 ≤ (i2 - 1) ∧ (i2 - 1) < ((data3.set i2.toNat e19).length : Int) then
 (Option.bind ((data3.set i2.toNat e19)[(i2 - 1).toNat]?) fun (e22 : Int) =>
 (meet (fun (g : (List Int) × Int × Int × Int × Int) =>
 match g with
 | (data8, a8, b8, i7, j10) =>
 (if fits (b8 - i7) then (bif (decide ((2 : Int) ≤ (b8 - i7))) then
 (if fits (i7 + 1) then (iter (fun (go6 : ((List Int) × Int × Int × Int × Int × Int) → Option (Bool × (List Int))) (g : (List Int) × Int × Int × Int × Int × Int) =>
 match g with
 | (data9, a9, b9, i8, j11, j12) =>
 (bif (decide (j12 < b9)) then
 (if 0 ≤ j12 ∧ j12 < (data9.length : Int) then
 (Option.bind (data9[j12.toNat]?) fun (e29 : Int) =>
 (if fits (j12 - 1) then (if 0 ≤ (j12 - 1) ∧ (j12 - 1) < (data9.length : Int) then
 (Option.bind (data9[(j12 - 1).toNat]?) fun (e30 : Int) =>
 (Option.bind (k_cmp_Less_67_m N e29 e30) fun (r5 : Bool) =>
 (bif (!r5) then
 (if fits (j11 + 1) then (go (data9, a9, b9, i8, (j11 + 1))) else none)
 else
 (if fits (j12 - 1) then (if fits (j12 - 1) then (if 0 ≤ (j12 - 1) ∧ (j12 - 1) < (data9.length : Int) then
 (Option.bind (data9[(j12 - 1).toNat]?) fun (e31 : Int) =>
 (if 0 ≤ j12 ∧ j12 < (data9.length : Int) then
 (Option.bind (data9[j12.toNat]?) fun (e32 : Int) =>
 (if 0 ≤ j12 ∧ j12 < (data9.length : Int) then
 (Option.bind (data9[j12.toNat]?) fun (e33 : Int) =>
 (if 0 ≤ (j12 - 1) ∧ (j12 - 1) < ((data9.set j12.toNat e31).length : Int) then
 (Option.bind ((data9.set j12.toNat e31)[(j12 - 1).toNat]?) fun (e34 : Int) =>
 (if fits (j12 + 1) then (go6 (((data9.set j12.toNat e31).set (j12 - 1).toNat e32), a9, b9, i8, j11, (j12 + 1))) else none))
 else none))
 else none))
 else none))
 else none) else none) else none))))
 else none) else none))
 else none)
 else
 (if fits (j11 + 1) then (go (data9, a9, b9, i8, (j11 + 1))) else none))) N (data8, a8, b8, i7, j10, (i7 + 1))) else none)
 else
 (if fits (j10 + 1) then (go (data8, a8, b8, i7, (j10 + 1))) else none)) else none)) fun (J2 : ((List Int) × Int × Int × Int × Int) → Option (Bool × (List Int))) =>
 (if fits (i2 - a3) then (bif (decide ((2 : Int) ≤ (i2 - a3))) then
 (if fits (i2 - 1) then (iter (fun (go5 : ((List Int) × Int × Int × Int × Int × Int) → Option (Bool × (List Int))) (g : (List Int) × Int × Int × Int × Int × Int) =>
 match g with
 | (data7, a7, b7, i6, j8, j9) =>
 (bif (decide ((1 : Int) ≤ j9)) then
 (if 0 ≤ j9 ∧ j9 < (data7.length : Int) then
 (Option.bind (data7[j9.toNat]?) fun (e23 : Int) =>
 (if fits (j9 - 1) then (if 0 ≤ (j9 - 1) ∧ (j9 - 1) < (data7.length : Int) then
 (Option.bind (data7[(j9 - 1).toNat]?) fun (e24 : Int) =>
 (Option.bind (k_cmp_Less_67_m N e23 e24) fun (r4 : Bool) =>
 (bif (!r4) then
 (J2 (data7, a7, b7, i6, j8))
 else
 (if fits (j9 - 1) then (if fits (j9 - 1) then (if 0 ≤ (j9 - 1) ∧ (j9 - 1) < (data7.length : Int) then
 (Option.bind (data7[(j9 - 1).toNat]?) fun (e25 : Int) =>
 (if 0 ≤ j9 ∧ j9 < (data7.length : Int) then
 (Option.bind (data7[j9.toNat]?) fun (e26 : Int) =>
 (if 0 ≤ j9 ∧ j9 < (data7.length : Int) then
 (Option.bind (data7[j9.toNat]?) fun (e27 : Int) =>
 (if 0 ≤ (j9 - 1) ∧ (j9 - 1) < ((data7.set j9.toNat e25).length : Int) then
 (Option.bind ((data7.set j9.toNat e25)[(j9 - 1).toNat]?) fun (e28 : Int) =>
 (if fits (j9 - 1) then (go5 (((data7.set j9.toNat e25).set (j9 - 1).toNat e26), a7, b7, i6, j8, (j9 - 1))) else none))
 else none))
 else none))
 else none))
 else none) else none) else none))))
 else none) else none))
 else none)
 else
 (J2 (data7, a7, b7, i6, j8)))) N (((data3.set i2.toNat e19).set (i2 - 1).toNat e20), a3, b3, i2, j2, (i2 - 1))) else none)
 else
 (J2 (((data3.set i2.toNat e19).set (i2 - 1).toNat e20), a3, b3, i2, j2))) else none)))
 else none))
 else none))
 else none))
 else none) else none) else none)) else none)))) N (data2, a2, b2, i, j))
 else
 (some (false, data2)))) N (data, a, b, (a + 1), 0)) else none)
def k_slices_partialInsertionSortOrdered_987_M (N : Nat) : Model := ⟨k_slices_partialInsertionSortOrdered_987_arg, k_slices_partialInsertionSortOrdered_987_ret, fun a => k_slices_partialInsertionSortOrdered_987_m N a.1 a.2.1 a.2.2⟩
set_option maxRecDepth 1000000 in
theorem k_slices_partialInsertionSortOrdered_987_ok (N : Nat) : ModelOk Try.prog 67 (k_slices_partialInsertionSortOrdered_987_M N) :=
  modelOk_of (E := mkEnv [(68, k_cmp_Less_67_M N)] [] [800000]) (mkEnv_ok (fnsOk_cons (k_cmp_Less_67_ok N) fnsOk_nil) _ _) Try.func67 (by kernel_rfl) rfl N k_slices_partialInsertionSortOrdered_987_h (k_slices_partialInsertionSortOrdered_987_M N) (by kernel_rfl) (by kernel_rfl) (fun a => by kernel_rfl)
/-! slices.partitionEqualOrdered[int] -/
def k_slices_partitionEqualOrdered_694_arg : Sh := ⟨[.mtk 800000 (.int .i64) 3 true, .pv (.int .i64), .pv (.int .i64), .pv (.int .i64)], []⟩
def k_slices_partitionEqualOrdered_694_ret : Sh := ⟨[.pv (.int .i64), .mtk 800000 (.int .i64) 3 true], []⟩
def k_slices_partitionEqualOrdered_694_s1 : Sh := ⟨[.mtk 800000 (.int .i64) 3 true, .pv (.int .i64), .dead, .dead, .dead, .dead, .dead, .dead, .dead, .pv (.int .i64), .pv (.int .i64), .dead, .dead, .dead, .dead, .dead, .dead, .dead, .dead, .dead, .dead, .dead, .dead, .dead, .dead, .dead, .dead, .dead, .dead, .dead, .dead, .dead, .dead, .dead, .dead, .dead, .dead, .dead, .dead, .dead, .dead, .dead, .dead, .dead, .dead, .dead, .dead, .dead, .dead, .dead, .dead, .dead, .dead, .dead, .dead, .dead, .dead, .dead, .dead, .dead, .dead, .dead, .dead, .dead, .dead, .dead, .dead, .dead, .dead, .dead, .dead, .dead, .dead, .dead, .dead, .dead, .dead, .dead, .dead, .dead, .dead, .dead, .dead, .dead], []⟩
def k_slices_partitionEqualOrdered_694_s2 : Sh := ⟨[.mtk 800000 (.int .i64) 3 true, .pv (.int .i64), .dead, .dead, .dead, .dead, .dead, .dead, .dead, .pv (.int .i64), .pv (.int .i64), .dead, .dead, .dead, .dead, .dead, .dead, .dead, .dead, .dead, .dead, .dead, .dead, .dead, .dead, .dead, .dead, .dead, .dead, .dead, .dead, .dead, .dead, .dead, .dead, .dead, .dead, .dead, .dead, .dead, .dead, .dead, .dead, .dead, .dead, .dead, .dead, .dead, .dead, .dead, .dead, .dead, .dead, .dead, .dead, .dead, .dead, .dead, .dead, .dead, .dead, .dead, .dead, .dead, .dead, .dead, .dead, .dead, .dead, .dead, .dead, .dead, .dead, .dead, .dead, .dead, .dead, .dead, .dead, .dead, .dead, .dead, .dead, .dead], []⟩
def k_slices_partitionEqualOrdered_694_s3 : Sh := ⟨[.mtk 800000 (.int .i64) 3 true, .pv (.int .i64), .dead, .dead, .dead, .dead, .dead, .dead, .dead, .pv (.int .i64), .pv (.int .i64), .dead, .dead, .dead, .dead, .dead, .dead, .dead, .dead, .dead, .dead, .dead, .dead, .dead, .dead, .dead, .dead, .dead, .dead, .dead, .dead, .dead, .dead, .dead, .dead, .dead, .dead, .dead, .dead, .dead, .dead, .dead, .dead, .dead, .dead, .dead, .dead, .dead, .dead, .dead, .dead, .dead, .dead, .dead, .dead, .dead, .dead, .dead, .dead, .dead, .dead, .dead, .dead, .dead, .dead, .dead, .dead, .dead, .dead, .dead, .dead, .dead, .dead, .dead, .dead, .dead, .dead, .dead, .dead, .dead, .dead, .dead, .dead, .dead], []⟩
def k_slices_partitionEqualOrdered_694_h : Hint := (.seq .no (.seq .no (.seq .no (.seq (.block (.loop k_slices_partitionEqualOrdered_694_s1 (.block (.seq (.block (.loop k_slices_partitionEqualOrdered_694_s2 .no)) (.seq (.block (.loop k_slices_partitionEqualOrdered_694_s3 .no)) .no))))) .no))))
def k_slices_partitionEqualOrdered_694_m (N : Nat) (data : List Int) (a : Int) (b : Int) (pivot : Int) : Option (Int × (List Int)) :=
 (if 0 ≤ pivot ∧ pivot < (data.length : Int) then
 (Option.bind (data[pivot.toNat]?) fun (e : Int) =>
 (if 0 ≤ a ∧ a < (data.length : Int) then
 (Option.bind (data[a.toNat]?) fun (e2 : Int) =>
 (if 0 ≤ a ∧ a < (data.length : Int) then
 (Option.bind (data[a.toNat]?) fun (e3 : Int) =>
 (if 0 ≤ pivot ∧ pivot < ((data.set a.toNat e).length : Int) then
 (Option.bind ((data.set a.toNat e)[pivot.toNat]?) fun (e4 : Int) =>
 (if fits (a + 1) then (if fits (b - 1) then (iter (fun (go : ((List Int) × Int × Int × Int) → Option (Int × (List Int))) (g : (List Int) × Int × Int × Int) =>
 match g with
 | (data2, a2, i, j) =>
 (iter (fun (go2 : ((List Int) × Int × Int × Int) → Option (Int × (List Int))) (g : (List Int) × Int × Int × Int) =>
 match g with
 | (data3, a3, i2, j2) =>
 (bif (decide (i2 ≤ j2)) then
 (if 0 ≤ a3 ∧ a3 < (data3.length : Int) then
 (Option.bind (data3[a3.toNat]?) fun (e5 : Int) =>
 (if 0 ≤ i2 ∧ i2 < (data3.length : Int) then
 (Option.bind (data3[i2.toNat]?) fun (e6 : Int) =>
 (Option.bind (k_cmp_Less_67_m N e5 e6) fun (r : Bool) =>
 (bif (!r) then
 (if fits (i2 + 1) then (go2 (data3, a3, (i2 + 1), j2)) else none)
 else
 (iter (fun (go3 : ((List Int) × Int × Int × Int) → Option (Int × (List Int))) (g : (List Int) × Int × Int × Int) =>
 match g with
 | (data4, a4, i3, j3) =>
 (bif (decide (i3 ≤ j3)) then
 (if 0 ≤ a4 ∧ a4 < (data4.length : Int) then
 (Option.bind (data4[a4.toNat]?) fun (e7 : Int) =>
 (if 0 ≤ j3 ∧ j3 < (data4.length : Int) then
 (Option.bind (data4[j3.toNat]?) fun (e8 : Int) =>
 (Option.bind (k_cmp_Less_67_m N e7 e8) fun (r2 : Bool) =>
 (bif r2 then
 (if fits (j3 - 1) then (go3 (data4, a4, i3, (j3 - 1))) else none)
 else
 (bif (decide (j3 < i3)) then
 (some (i3, data4))
 else
 (if 0 ≤ j3 ∧ j3 < (data4.length : Int) then
 (Option.bind (data4[j3.toNat]?) fun (e9 : Int) =>
 (if 0 ≤ i3 ∧ i3 < (data4.length : Int) then
 (Option.bind (data4[i3.toNat]?) fun (e10 : Int) =>
 (if 0 ≤ i3 ∧ i3 < (data4.length : Int) then
 (Option.bind (data4[i3.toNat]?) fun (e11 : Int) =>
 (if 0 ≤ j3 ∧ j3 < ((data4.set i3.toNat e9).length : Int) then
 (Option.bind ((data4.set i3.toNat e9)[j3.toNat]?) fun (e12 : Int) =>
 (if fits (i3 + 1) then (if fits (j3 - 1) then (go (((data4.set i3.toNat e9).set j3.toNat e10), a4, (i3 + 1), (j3 - 1))) else none) else none))
 else none))
 else none))
 else none))
 else none)))))
 else none))
 else none)
 else
 (bif (decide (j3 < i3)) then
 (some (i3, data4))
 else
 (if 0 ≤ j3 ∧ j3 < (data4.length : Int) then
 (Option.bind (data4[j3.toNat]?) fun (e13 : Int) =>
 (if 0 ≤ i3 ∧ i3 < (data4.length : Int) then
 (Option.bind (data4[i3.toNat]?) fun (e14 : Int) =>
 (if 0 ≤ i3 ∧ i3 < (data4.length : Int) then
 (Option.bind (data4[i3.toNat]?) fun (e15 : Int) =>
 (if 0 ≤ j3 ∧ j3 < ((data4.set i3.toNat e13).length : Int) then
 (Option.bind ((data4.set i3.toNat e13)[j3.toNat]?) fun (e16 : Int) =>
 (if fits (i3 + 1) then (if fits (j3 - 1) then (go (((data4.set i3.toNat e13).set j3.toNat e14), a4, (i3 + 1), (j3 - 1))) else none) else none))
 else none))
 else none))
 else none))
 else none)))) N (data3, a3, i2, j2)))))
 else none))
 else none)
 else
 (iter (fun (go4 : ((List Int) × Int × Int × Int) → Option (Int × (List Int))) (g : (List Int) × Int × Int × Int) =>
 match g with
 | (data5, a5, i4, j4) =>
 (bif (decide (i4 ≤ j4)) then
 (if 0 ≤ a5 ∧ a5 < (data5.length : Int) then
 (Option.bind (data5[a5.toNat]?) fun (e17 : Int) =>
 (if 0 ≤ j4 ∧ j4 < (data5.length : Int) then
 (Option.bind (data5[j4.toNat]?) fun (e18 : Int) =>
 (Option.bind (k_cmp_Less_67_m N e17 e18) fun (r3 : Bool) =>
 (bif r3 then
 (if fits (j4 - 1) then (go4 (data5, a5, i4, (j4 - 1))) else none)
 else
 (bif (decide (j4 < i4)) then
 (some (i4, data5))
 else
 (if 0 ≤ j4 ∧ j4 < (data5.length : Int) then
 (Option.bind (data5[j4.toNat]?) fun (e19 : Int) =>
 (if 0 ≤ i4 ∧ i4 < (data5.length : Int) then
 (Option.bind (data5[i4.toNat]?) fun (e20 : Int) =>
 (if 0 ≤ i4 ∧ i4 < (data5.length : Int) then
 (Option.bind (data5[i4.toNat]?) fun (e21 : Int) =>
 (if 0 ≤ j4 ∧ j4 < ((data5.set i4.toNat e19).length : Int) then
 (Option.bind ((data5.set i4.toNat e19)[j4.toNat]?) fun (e22 : Int) =>
 (if fits (i4 + 1) then (if fits (j4 - 1) then (go (((data5.set i4.toNat e19).set j4.toNat e20), a5, (i4 + 1), (j4 - 1))) else none) else none))
 else none))
 else none))
 else none))
 else none)))))
 else none))
 else none)
 else
 (bif (decide (j4 < i4)) then
 (some (i4, data5))
 else
 (if 0 ≤ j4 ∧ j4 < (data5.length : Int) then
 (Option.bind (data5[j4.toNat]?) fun (e23 : Int) =>
 (if 0 ≤ i4 ∧ i4 < (data5.length : Int) then
 (Option.bind (data5[i4.toNat]?) fun (e24 : Int) =>
 (if 0 ≤ i4 ∧ i4 < (data5.length : Int) then
 (Option.bind (data5[i4.toNat]?) fun (e25 : Int) =>
 (if 0 ≤ j4 ∧ j4 < ((data5.set i4.toNat e23).length : Int) then
 (Option.bind ((data5.set i4.toNat e23)[j4.toNat]?) fun (e26 : Int) =>
 (if fits (i4 + 1) then (if fits (j4 - 1) then (go (((data5.set i4.toNat e23).set j4.toNat e24), a5, (i4 + 1), (j4 - 1))) else none) else none))
 else none))
 else none))
 else none))
 else none)))) N (data3, a3, i2, j2)))) N (data2, a2, i, j))) N (((data.set a.toNat e).set pivot.toNat e2), a, (a + 1), (b - 1))) else none) else none))
 else none))
 else none))
 else none))
 else none)
def k_slices_partitionEqualOrdered_694_M (N : Nat) : Model := ⟨k_slices_partitionEqualOrdered_694_arg, k_slices_partitionEqualOrdered_694_ret, fun a => k_slices_partitionEqualOrdered_694_m N a.1 a.2.1 a.2.2.1 a.2.2.2⟩
set_option maxRecDepth 1000000 in
theorem k_slices_partitionEqualOrdered_694_ok (N : Nat) : ModelOk Try.prog 69 (k_slices_partitionEqualOrdered_694_M N) :=
  modelOk_of (E := mkEnv [(68, k_cmp_Less_67_M N)] [] [800000]) (mkEnv_ok (fnsOk_cons (k_cmp_Less_67_ok N) fnsOk_nil) _ _) Try.func69 (by kernel_rfl) rfl N k_slices_partitionEqualOrdered_694_h (k_slices_partitionEqualOrdered_694_M N) (by kernel_rfl) (by kernel_rfl) (fun a => by kernel_rfl)
/-! slices.partitionOrdered[int] -/
def k_slices_partitionOrdered_800_arg : Sh := ⟨[.mtk 800000 (.int .i64) 3 true, .pv (.int .i64), .pv (.int .i64), .pv (.int .i64)], []⟩
def k_slices_partitionOrdered_800_ret : Sh := ⟨[.tup [.pv (.int .i64), .pv .bool], .mtk 800000 (.int .i64) 3 true], []⟩
def k_slices_partitionOrdered_800_s1 : Sh := ⟨[.mtk 800000 (.int .i64) 3 true, .pv (.int .i64), .dead, .dead, .dead, .dead, .dead, .dead, .dead, .dead, .pv (.int .i64), .pv (.int .i64), .dead, .dead, .dead, .dead, .dead, .dead, .dead, .dead, .dead, .dead, .dead, .dead, .dead, .dead, .dead, .dead, .dead, .dead, .dead, .dead, .dead, .dead, .dead, .dead, .dead, .dead, .dead, .dead, .dead, .dead, .dead, .dead, .dead, .dead, .dead, .dead, .dead, .dead, .dead, .dead, .dead, .dead, .dead, .dead, .dead, .dead, .dead, .dead, .dead, .dead, .dead, .dead, .dead, .dead, .dead, .dead, .dead, .dead, .dead, .dead, .dead, .dead, .dead, .dead, .dead, .dead, .dead, .dead, .dead, .dead, .dead, .dead, .dead, .dead, .dead, .dead, .dead, .dead, .dead, .dead, .dead, .dead, .dead, .dead, .dead, .dead, .dead, .dead, .dead, .dead, .dead, .dead, .dead, .dead, .dead, .dead, .dead, .dead, .dead, .dead, .dead, .dead, .dead, .dead, .dead, .dead, .dead, .dead, .dead, .dead, .dead, .dead, .dead, .dead, .dead, .dead, .dead, .dead, .dead, .dead, .dead, .dead, .dead, .dead, .dead, .dead, .dead, .dead, .dead, .dead, .dead, .dead, .dead, .dead, .dead, .dead, .dead, .dead, .dead, .dead, .dead, .dead, .dead, .dead, .dead, .dead, .dead, .dead, .dead, .dead, .dead, .dead, .dead, .dead, .dead, .dead], []⟩
def k_slices_partitionOrdered_800_s2 : Sh := ⟨[.mtk 800000 (.int .i64) 3 true, .pv (.int .i64), .dead, .dead, .dead, .dead, .dead, .dead, .dead, .dead, .pv (.int .i64), .pv (.int .i64), .dead, .dead, .dead, .dead, .dead, .dead, .dead, .dead, .dead, .dead, .dead, .dead, .dead, .dead, .dead, .dead, .dead, .dead, .dead, .dead, .dead, .dead, .dead, .dead, .dead, .dead, .dead, .dead, .dead, .dead, .dead, .dead, .dead, .dead, .dead, .dead, .dead, .dead, .dead, .dead, .dead, .dead, .dead, .dead, .dead, .dead, .dead, .dead, .dead, .dead, .dead, .dead, .dead, .dead, .dead, .dead, .dead, .dead, .dead, .dead, .dead, .dead, .dead, .dead, .dead, .dead, .dead, .dead, .dead, .dead, .dead, .dead, .dead, .dead, .dead, .dead, .dead, .dead, .dead, .dead, .dead, .dead, .dead, .dead, .dead, .dead, .dead, .dead, .dead, .dead, .dead, .dead, .dead, .dead, .dead, .dead, .dead, .dead, .dead, .dead, .dead, .dead, .dead, .dead, .dead, .dead, .dead, .dead, .dead, .dead, .dead, .dead, .dead, .dead, .dead, .dead, .dead, .dead, .dead, .dead, .dead, .dead, .dead, .dead, .dead, .dead, .dead, .dead, .dead, .dead, .dead, .dead, .dead, .dead, .dead, .dead, .dead, .dead, .dead, .dead, .dead, .dead, .dead, .dead, .dead, .dead, .dead, .dead, .dead, .dead, .dead, .dead, .dead, .dead, .dead, .dead], []⟩
def k_slices_partitionOrdered_800_s3 : Sh := ⟨[.mtk 800000 (.int .i64) 3 true, .pv (.int .i64), .dead, .dead, .dead, .dead, .dead, .dead, .dead, .dead, .pv (.int .i64), .pv (.int .i64), .dead, .dead, .dead, .dead, .dead, .dead, .dead, .dead, .dead, .dead, .dead, .dead, .dead, .dead, .dead, .dead, .dead, .dead, .dead, .dead, .dead, .dead, .dead, .dead, .dead, .dead, .dead, .dead, .dead, .dead, .dead, .dead, .dead, .dead, .dead, .dead, .dead, .dead, .dead, .dead, .dead, .dead, .dead, .dead, .dead, .dead, .dead, .dead, .dead, .dead, .dead, .dead, .dead, .dead, .dead, .dead, .dead, .dead, .dead, .dead, .dead, .dead, .dead, .dead, .dead, .dead, .dead, .dead, .dead, .dead, .dead, .dead, .dead, .dead, .dead, .dead, .dead, .dead, .dead, .dead, .dead, .dead, .dead, .dead, .dead, .dead, .dead, .dead, .dead, .dead, .dead, .dead, .dead, .dead, .dead, .dead, .dead, .dead, .dead, .dead, .dead, .dead, .dead, .dead, .dead, .dead, .dead, .dead, .dead, .dead, .dead, .dead, .dead, .dead, .dead, .dead, .dead, .dead, .dead, .dead, .dead, .dead, .dead, .dead, .dead, .dead, .dead, .dead, .dead, .dead, .dead, .dead, .dead, .dead, .dead, .dead, .dead, .dead, .dead, .dead, .dead, .dead, .dead, .dead, .dead, .dead, .dead, .dead, .dead, .dead, .dead, .dead, .dead, .dead, .dead, .dead], []⟩
def k_slices_partitionOrdered_800_s4 : Sh := ⟨[.mtk 800000 (.int .i64) 3 true, .pv (.int .i64), .dead, .dead, .dead, .dead, .dead, .dead, .dead, .dead, .pv (.int .i64), .pv (.int .i64), .dead, .dead, .dead, .dead, .dead, .dead, .dead, .dead, .dead, .dead, .dead, .dead, .dead, .dead, .dead, .dead, .dead, .dead, .dead, .dead, .dead, .dead, .dead, .dead, .dead, .dead, .dead, .dead, .dead, .dead, .dead, .dead, .dead, .dead, .dead, .dead, .dead, .dead, .dead, .dead, .dead, .dead, .dead, .dead, .dead, .dead, .dead, .dead, .dead, .dead, .dead, .dead, .dead, .dead, .dead, .dead, .dead, .dead, .dead, .dead, .dead, .dead, .dead, .dead, .dead, .dead, .dead, .dead, .dead, .dead, .dead, .dead, .dead, .dead, .dead, .dead, .dead, .dead, .dead, .dead, .dead, .dead, .dead, .dead, .dead, .dead, .dead, .dead, .dead, .dead, .dead, .dead, .dead, .dead, .dead, .dead, .dead, .dead, .dead, .dead, .dead, .dead, .dead, .dead, .dead, .dead, .dead, .dead, .dead, .dead, .dead, .dead, .dead, .dead, .dead, .dead, .dead, .dead, .dead, .dead, .dead, .dead, .dead, .dead, .dead, .dead, .dead, .dead, .dead, .dead, .dead, .dead, .dead, .dead, .dead, .dead, .dead, .dead, .dead, .dead, .dead, .dead, .dead, .dead, .dead, .dead, .dead, .dead, .dead, .dead, .dead, .dead, .dead, .dead, .dead, .dead], []⟩
def k_slices_partitionOrdered_800_s5 : Sh := ⟨[.mtk 800000 (.int .i64) 3 true, .pv (.int .i64), .dead, .dead, .dead, .dead, .dead, .dead, .dead, .dead, .pv (.int .i64), .pv (.int .i64), .dead, .dead, .dead, .dead, .dead, .dead, .dead, .dead, .dead, .dead, .dead, .dead, .dead, .dead, .dead, .dead, .dead, .dead, .dead, .dead, .dead, .dead, .dead, .dead, .dead, .dead, .dead, .dead, .dead, .dead, .dead, .dead, .dead, .dead, .dead, .dead, .dead, .dead, .dead, .dead, .dead, .dead, .dead, .dead, .dead, .dead, .dead, .dead, .dead, .dead, .dead, .dead, .dead, .dead, .dead, .dead, .dead, .dead, .dead, .dead, .dead, .dead, .dead, .dead, .dead, .dead, .dead, .dead, .dead, .dead, .dead, .dead, .dead, .dead, .dead, .dead, .dead, .dead, .dead, .dead, .dead, .dead, .dead, .dead, .dead, .dead, .dead, .dead, .dead, .dead, .dead, .dead, .dead, .dead, .dead, .dead, .dead, .dead, .dead, .dead, .dead, .dead, .dead, .dead, .dead, .dead, .dead, .dead, .dead, .dead, .dead, .dead, .dead, .dead, .dead, .dead, .dead, .dead, .dead, .dead, .dead, .dead, .dead, .dead, .dead, .dead, .dead, .dead, .dead, .dead, .dead, .dead, .dead, .dead, .dead, .dead, .dead, .dead, .dead, .dead, .dead, .dead, .dead, .dead, .dead, .dead, .dead, .dead, .dead, .dead, .dead, .dead, .dead, .dead, .dead, .dead], []⟩
def k_slices_partitionOrdered_800_h : Hint := (.seq .no (.seq .no (.seq .no (.seq (.block (.loop k_slices_partitionOrdered_800_s1 .no)) (.seq (.block (.loop k_slices_partitionOrdered_800_s2 .no)) (.seq .no (.seq .no (.seq .no (.seq .no (.seq (.block (.loop k_slices_partitionOrdered_800_s3 (.block (.seq (.block (.loop k_slices_partitionOrdered_800_s4 .no)) (.seq (.block (.loop k_slices_partitionOrdered_800_s5 .no)) .no))))) .no))))))))))
def k_slices_partitionOrdered_800_m (N : Nat) (data : List Int) (a : Int) (b : Int) (pivot : Int) : Option (Int × Bool × (List Int)) :=
 (if 0 ≤ pivot ∧ pivot < (data.length : Int) then
 (Option.bind (data[pivot.toNat]?) fun (e : Int) =>
 (if 0 ≤ a ∧ a < (data.length : Int) then
 (Option.bind (data[a.toNat]?) fun (e2 : Int) =>
 (if 0 ≤ a ∧ a < (data.length : Int) then
 (Option.bind (data[a.toNat]?) fun (e3 : Int) =>
 (if 0 ≤ pivot ∧ pivot < ((data.set a.toNat e).length : Int) then
 (Option.bind ((data.set a.toNat e)[pivot.toNat]?) fun (e4 : Int) =>
 (if fits (a + 1) then (if fits (b - 1) then (iter (fun (go : ((List Int) × Int × Int × Int) → Option (Int × Bool × (List Int))) (g : (List Int) × Int × Int × Int) =>
 match g with
 | (data2, a2, i, j) =>
 (bif (decide (i ≤ j)) then
 (if 0 ≤ i ∧ i < (data2.length : Int) then
 (Option.bind (data2[i.toNat]?) fun (e5 : Int) =>
 (if 0 ≤ a2 ∧ a2 < (data2.length : Int) then
 (Option.bind (data2[a2.toNat]?) fun (e6 : Int) =>
 (Option.bind (k_cmp_Less_67_m N e5 e6) fun (r : Bool) =>
 (bif r then
 (if fits (i + 1) then (go (data2, a2, (i + 1), j)) else none)
 else
 (iter (fun (go2 : ((List Int) × Int × Int × Int) → Option (Int × Bool × (List Int))) (g : (List Int) × Int × Int × Int) =>
 match g with
 | (data3, a3, i2, j2) =>
 (bif (decide (i2 ≤ j2)) then
 (if 0 ≤ j2 ∧ j2 < (data3.length : Int) then
 (Option.bind (data3[j2.toNat]?) fun (e7 : Int) =>
 (if 0 ≤ a3 ∧ a3 < (data3.length : Int) then
 (Option.bind (data3[a3.toNat]?) fun (e8 : Int) =>
 (Option.bind (k_cmp_Less_67_m N e7 e8) fun (r2 : Bool) =>
 (bif (!r2) then
 (if fits (j2 - 1) then (go2 (data3, a3, i2, (j2 - 1))) else none)
 else
 (bif (decide (j2 < i2)) then
 (if 0 ≤ a3 ∧ a3 < (data3.length : Int) then
 (Option.bind (data3[a3.toNat]?) fun (e9 : Int) =>
 (if 0 ≤ j2 ∧ j2 < (data3.length : Int) then
 (Option.bind (data3[j2.toNat]?) fun (e10 : Int) =>
 (if 0 ≤ j2 ∧ j2 < (data3.length : Int) then
 (Option.bind (data3[j2.toNat]?) fun (e11 : Int) =>
 (if 0 ≤ a3 ∧ a3 < ((data3.set j2.toNat e9).length : Int) then
 (Option.bind ((data3.set j2.toNat e9)[a3.toNat]?) fun (e12 : Int) =>
 (some (j2, true, ((data3.set j2.toNat e9).set a3.toNat e10))))
 else none))
 else none))
 else none))
 else none)
 else
 (if 0 ≤ j2 ∧ j2 < (data3.length : Int) then
 (Option.bind (data3[j2.toNat]?) fun (e13 : Int) =>
 (if 0 ≤ i2 ∧ i2 < (data3.length : Int) then
 (Option.bind (data3[i2.toNat]?) fun (e14 : Int) =>
 (if 0 ≤ i2 ∧ i2 < (data3.length : Int) then
 (Option.bind (data3[i2.toNat]?) fun (e15 : Int) =>
 (if 0 ≤ j2 ∧ j2 < ((data3.set i2.toNat e13).length : Int) then
 (Option.bind ((data3.set i2.toNat e13)[j2.toNat]?) fun (e16 : Int) =>
 (if fits (i2 + 1) then (if fits (j2 - 1) then (iter (fun (go3 : ((List Int) × Int × Int × Int) → Option (Int × Bool × (List Int))) (g : (List Int) × Int × Int × Int) =>
 match g with
 | (data4, a4, i3, j3) =>
 (iter (fun (go4 : ((List Int) × Int × Int × Int) → Option (Int × Bool × (List Int))) (g : (List Int) × Int × Int × Int) =>
 match g with
 | (data5, a5, i4, j4) =>
 (bif (decide (i4 ≤ j4)) then
 (if 0 ≤ i4 ∧ i4 < (data5.length : Int) then
 (Option.bind (data5[i4.toNat]?) fun (e17 : Int) =>
 (if 0 ≤ a5 ∧ a5 < (data5.length : Int) then
 (Option.bind (data5[a5.toNat]?) fun (e18 : Int) =>
 (Option.bind (k_cmp_Less_67_m N e17 e18) fun (r3 : Bool) =>
 (bif r3 then
 (if fits (i4 + 1) then (go4 (data5, a5, (i4 + 1), j4)) else none)
 else
 (iter (fun (go5 : ((List Int) × Int × Int × Int) → Option (Int × Bool × (List Int))) (g : (List Int) × Int × Int × Int) =>
 match g with
 | (data6, a6, i5, j5) =>
 (bif (decide (i5 ≤ j5)) then
 (if 0 ≤ j5 ∧ j5 < (data6.length : Int) then
 (Option.bind (data6[j5.toNat]?) fun (e19 : Int) =>
 (if 0 ≤ a6 ∧ a6 < (data6.length : Int) then
 (Option.bind (data6[a6.toNat]?) fun (e20 : Int) =>
 (Option.bind (k_cmp_Less_67_m N e19 e20) fun (r4 : Bool) =>
 (bif (!r4) then
 (if fits (j5 - 1) then (go5 (data6, a6, i5, (j5 - 1))) else none)
 else
 (bif (decide (j5 < i5)) then
 (if 0 ≤ a6 ∧ a6 < (data6.length : Int) then
 (Option.bind (data6[a6.toNat]?) fun (e21 : Int) =>
 (if 0 ≤ j5 ∧ j5 < (data6.length : Int) then
 (Option.bind (data6[j5.toNat]?) fun (e22 : Int) =>
 (if 0 ≤ j5 ∧ j5 < (data6.length : Int) then
 (Option.bind (data6[j5.toNat]?) fun (e23 : Int) =>
 (if 0 ≤ a6 ∧ a6 < ((data6.set j5.toNat e21).length : Int) then
 (Option.bind ((data6.set j5.toNat e21)[a6.toNat]?) fun (e24 : Int) =>
 (some (j5, false, ((data6.set j5.toNat e21).set a6.toNat e22))))
 else none))
 else none))
 else none))
 else none)
 else
 (if 0 ≤ j5 ∧ j5 < (data6.length : Int) then
 (Option.bind (data6[j5.toNat]?) fun (e25 : Int) =>
 (if 0 ≤ i5 ∧ i5 < (data6.length : Int) then
 (Option.bind (data6[i5.toNat]?) fun (e26 : Int) =>
 (if 0 ≤ i5 ∧ i5 < (data6.length : Int) then
 (Option.bind (data6[i5.toNat]?) fun (e27 : Int) =>
 (if 0 ≤ j5 ∧ j5 < ((data6.set i5.toNat e25).length : Int) then
 (Option.bind ((data6.set i5.toNat e25)[j5.toNat]?) fun (e28 : Int) =>
 (if fits (i5 + 1) then (if fits (j5 - 1) then (go3 (((data6.set i5.toNat e25).set j5.toNat e26), a6, (i5 + 1), (j5 - 1))) else none) else none))
 else none))
 else none))
 else none))
 else none)))))
 else none))
 else none)
 else
 (bif (decide (j5 < i5)) then
 (if 0 ≤ a6 ∧ a6 < (data6.length : Int) then
 (Option.bind (data6[a6.toNat]?) fun (e29 : Int) =>
 (if 0 ≤ j5 ∧ j5 < (data6.length : Int) then
 (Option.bind (data6[j5.toNat]?) fun (e30 : Int) =>
 (if 0 ≤ j5 ∧ j5 < (data6.length : Int) then
 (Option.bind (data6[j5.toNat]?) fun (e31 : Int) =>
 (if 0 ≤ a6 ∧ a6 < ((data6.set j5.toNat e29).length : Int) then
 (Option.bind ((data6.set j5.toNat e29)[a6.toNat]?) fun (e32 : Int) =>
 (some (j5, false, ((data6.set j5.toNat e29).set a6.toNat e30))))
 else none))
 else none))
 else none))
 else none)
 else
 (if 0 ≤ j5 ∧ j5 < (data6.length : Int) then
 (Option.bind (data6[j5.toNat]?) fun (e33 : Int) =>
 (if 0 ≤ i5 ∧ i5 < (data6.length : Int) then
 (Option.bind (data6[i5.toNat]?) fun (e34 : Int) =>
 (if 0 ≤ i5 ∧ i5 < (data6.length : Int) then
 (Option.bind (data6[i5.toNat]?) fun (e35 : Int) =>
 (if 0 ≤ j5 ∧ j5 < ((data6.set i5.toNat e33).length : Int) then
 (Option.bind ((data6.set i5.toNat e33)[j5.toNat]?) fun (e36 : Int) =>
 (if fits (i5 + 1) then (if fits (j5 - 1) then (go3 (((data6.set i5.toNat e33).set j5.toNat e34), a6, (i5 + 1), (j5 - 1))) else none) else none))
 else none))
 else none))
 else none))
 else none)))) N (data5, a5, i4, j4)))))
 else none))
 else none)
 else
 (iter (fun (go6 : ((List Int) × Int × Int × Int) → Option (Int × Bool × (List Int))) (g : (List Int) × Int × Int × Int) =>
 match g with
 | (data7, a7, i6, j6) =>
 (bif (decide (i6 ≤ j6)) then
 (if 0 ≤ j6 ∧ j6 < (data7.length : Int) then
 (Option.bind (data7[j6.toNat]?) fun (e37 : Int) =>
 (if 0 ≤ a7 ∧ a7 < (data7.length : Int) then
 (Option.bind (data7[a7.toNat]?) fun (e38 : Int) =>
 (Option.bind (k_cmp_Less_67_m N e37 e38) fun (r5 : Bool) =>
 (bif (!r5) then
 (if fits (j6 - 1) then (go6 (data7, a7, i6, (j6 - 1))) else none)
 else
 (bif (decide (j6 < i6)) then
 (if 0 ≤ a7 ∧ a7 < (data7.length : Int) then
 (Option.bind (data7[a7.toNat]?) fun (e39 : Int) =>
 (if 0 ≤ j6 ∧ j6 < (data7.length : Int) then
 (Option.bind (data7[j6.toNat]?) fun (e40 : Int) =>
 (if 0 ≤ j6 ∧ j6 < (data7.length : Int) then
 (Option.bind (data7[j6.toNat]?) fun (e41 : Int) =>
 (if 0 ≤ a7 ∧ a7 < ((data7.set j6.toNat e39).length : Int) then
 (Option.bind ((data7.set j6.toNat e39)[a7.toNat]?) fun (e42 : Int) =>
 (some (j6, false, ((data7.set j6.toNat e39).set a7.toNat e40))))
 else none))
 else none))
 else none))
 else none)
 else
 (if 0 ≤ j6 ∧ j6 < (data7.length : Int) then
 (Option.bind (data7[j6.toNat]?) fun (e43 : Int) =>
 (if 0 ≤ i6 ∧ i6 < (data7.length : Int) then
 (Option.bind (data7[i6.toNat]?) fun (e44 : Int) =>
 (if 0 ≤ i6 ∧ i6 < (data7.length : Int) then
 (Option.bind (data7[i6.toNat]?) fun (e45 : Int) =>
 (if 0 ≤ j6 ∧ j6 < ((data7.set i6.toNat e43).length : Int) then
 (Option.bind ((data7.set i6.toNat e43)[j6.toNat]?) fun (e46 : Int) =>
 (if fits (i6 + 1) then (if fits (j6 - 1) then (go3 (((data7.set i6.toNat e43).set j6.toNat e44), a7, (i6 + 1), (j6 - 1))) else none) else none))
 else none))
 else none))
 else none))
 else none)))))
 else none))
 else none)
 else
 (bif (decide (j6 < i6)) then
 (if 0 ≤ a7 ∧ a7 < (data7.length : Int) then
 (Option.bind (data7[a7.toNat]?) fun (e47 : Int) =>
 (if 0 ≤ j6 ∧ j6 < (data7.length : Int) then
 (Option.bind (data7[j6.toNat]?) fun (e48 : Int) =>
 (if 0 ≤ j6 ∧ j6 < (data7.length : Int) then
 (Option.bind (data7[j6.toNat]?) fun (e49 : Int) =>
 (if 0 ≤ a7 ∧ a7 < ((data7.set j6.toNat e47).length : Int) then
 (Option.bind ((data7.set j6.toNat e47)[a7.toNat]?) fun (e50 : Int) =>
 (some (j6, false, ((data7.set j6.toNat e47).set a7.toNat e48))))
 else none))
 else none))
 else none))
 else none)
 else
 (if 0 ≤ j6 ∧ j6 < (data7.length : Int) then
 (Option.bind (data7[j6.toNat]?) fun (e51 : Int) =>
 (if 0 ≤ i6 ∧ i6 < (data7.length : Int) then
 (Option.bind (data7[i6.toNat]?) fun (e52 : Int) =>
 (if 0 ≤ i6 ∧ i6 < (data7.length : Int) then
 (Option.bind (data7[i6.toNat]?) fun (e53 : Int) =>
 (if 0 ≤ j6 ∧ j6 < ((data7.set i6.toNat e51).length : Int) then
 (Option.bind ((data7.set i6.toNat e51)[j6.toNat]?) fun (e54 : Int) =>
 (if fits (i6 + 1) then (if fits (j6 - 1) then (go3 (((data7.set i6.toNat e51).set j6.toNat e52), a7, (i6 + 1), (j6 - 1))) else none) else none))
 else none))
 else none))
 else none))
 else none)))) N (data5, a5, i4, j4)))) N (data4, a4, i3, j3))) N (((data3.set i2.toNat e13).set j2.toNat e14), a3, (i2 + 1), (j2 - 1))) else none) else none))
 else none))
 else none))
 else none))
 else none)))))
 else none))
 else none)
 else
 (bif (decide (j2 < i2)) then
 (if 0 ≤ a3 ∧ a3 < (data3.length : Int) then
 (Option.bind (data3[a3.toNat]?) fun (e55 : Int) =>
 (if 0 ≤ j2 ∧ j2 < (data3.length : Int) then
 (Option.bind (data3[j2.toNat]?) fun (e56 : Int) =>
 (if 0 ≤ j2 ∧ j2 < (data3.length : Int) then
 (Option.bind (data3[j2.toNat]?) fun (e57 : Int) =>
 (if 0 ≤ a3 ∧ a3 < ((data3.set j2.toNat e55).length : Int) then
 (Option.bind ((data3.set j2.toNat e55)[a3.toNat]?) fun (e58 : Int) =>
 (some (j2, true, ((data3.set j2.toNat e55).set a3.toNat e56))))
 else none))
 else none))
 else none))
 else none)
 else
 (if 0 ≤ j2 ∧ j2 < (data3.length : Int) then
 (Option.bind (data3[j2.toNat]?) fun (e59 : Int) =>
 (if 0 ≤ i2 ∧ i2 < (data3.length : Int) then
 (Option.bind (data3[i2.toNat]?) fun (e60 : Int) =>
 (if 0 ≤ i2 ∧ i2 < (data3.length : Int) then
 (Option.bind (data3[i2.toNat]?) fun (e61 : Int) =>
 (if 0 ≤ j2 ∧ j2 < ((data3.set i2.toNat e59).length : Int) then
 (Option.bind ((data3.set i2.toNat e59)[j2.toNat]?) fun (e62 : Int) =>
 (if fits (i2 + 1) then (if fits (j2 - 1) then (iter (fun (go7 : ((List Int) × Int × Int × Int) → Option (Int × Bool × (List Int))) (g : (List Int) × Int × Int × Int) =>
 match g with
 | (data8, a8, i7, j7) =>
 (iter (fun (go8 : ((List Int) × Int × Int × Int) → Option (Int × Bool × (List Int))) (g : (List Int) × Int × Int × Int) =>
 match g with
 | (data9, a9, i8, j8) =>
 (bif (decide (i8 ≤ j8)) then
 (if 0 ≤ i8 ∧ i8 < (data9.length : Int) then
 (Option.bind (data9[i8.toNat]?) fun (e63 : Int) =>
 (if 0 ≤ a9 ∧ a9 < (data9.length : Int) then
 (Option.bind (data9[a9.toNat]?) fun (e64 : Int) =>
 (Option.bind (k_cmp_Less_67_m N e63 e64) fun (r6 : Bool) =>
 (bif r6 then
 (if fits (i8 + 1) then (go8 (data9, a9, (i8 + 1), j8)) else none)
 else
 (iter (fun (go9 : ((List Int) × Int × Int × Int) → Option (Int × Bool × (List Int))) (g : (List Int) × Int × Int × Int) =>
 match g with
 | (data10, a10, i9, j9) =>
 (bif (decide (i9 ≤ j9)) then
 (if 0 ≤ j9 ∧ j9 < (data10.length : Int) then
 (Option.bind (data10[j9.toNat]?) fun (e65 : Int) =>
 (if 0 ≤ a10 ∧ a10 < (data10.length : Int) then
 (Option.bind (data10[a10.toNat]?) fun (e66 : Int) =>
 (Option.bind (k_cmp_Less_67_m N e65 e66) fun (r7 : Bool) =>
 (bif (!r7) then
 (if fits (j9 - 1) then (go9 (data10, a10, i9, (j9 - 1))) else none)
 else
 (bif (decide (j9 < i9)) then
 (if 0 ≤ a10 ∧ a10 < (data10.length : Int) then
 (Option.bind (data10[a10.toNat]?) fun (e67 : Int) =>
 (if 0 ≤ j9 ∧ j9 < (data10.length : Int) then
 (Option.bind (data10[j9.toNat]?) fun (e68 : Int) =>
 (if 0 ≤ j9 ∧ j9 < (data10.length : Int) then
 (Option.bind (data10[j9.toNat]?) fun (e69 : Int) =>
 (if 0 ≤ a10 ∧ a10 < ((data10.set j9.toNat e67).length : Int) then
 (Option.bind ((data10.set j9.toNat e67)[a10.toNat]?) fun (e70 : Int) =>
 (some (j9, false, ((data10.set j9.toNat e67).set a10.toNat e68))))
 else none))
 else none))
 else none))
 else none)
 else
 (if 0 ≤ j9 ∧ j9 < (data10.length : Int) then
 (Option.bind (data10[j9.toNat]?) fun (e71 : Int) =>
 (if 0 ≤ i9 ∧ i9 < (data10.length : Int) then
 (Option.bind (data10[i9.toNat]?) fun (e72 : Int) =>
 (if 0 ≤ i9 ∧ i9 < (data10.length : Int) then
 (Option.bind (data10[i9.toNat]?) fun (e73 : Int) =>
 (if 0 ≤ j9 ∧ j9 < ((data10.set i9.toNat e71).length : Int) then
 (Option.bind ((data10.set i9.toNat e71)[j9.toNat]?) fun (e74 : Int) =>
 (if fits (i9 + 1) then (if fits (j9 - 1) then (go7 (((data10.set i9.toNat e71).set j9.toNat e72), a10, (i9 + 1), (j9 - 1))) else none) else none))
 else none))
 else none))
 else none))
 else none)))))
 else none))
 else none)
 else
 (bif (decide (j9 < i9)) then
 (if 0 ≤ a10 ∧ a10 < (data10.length : Int) then
 (Option.bind (data10[a10.toNat]?) fun (e75 : Int) =>
 (if 0 ≤ j9 ∧ j9 < (data10.length : Int) then
 (Option.bind (data10[j9.toNat]?) fun (e76 : Int) =>
 (if 0 ≤ j9 ∧ j9 < (data10.length : Int) then
 (Option.bind (data10[j9.toNat]?) fun (e77 : Int) =>
 (if 0 ≤ a10 ∧ a10 < ((data10.set j9.toNat e75).length : Int) then
 (Option.bind ((data10.set j9.toNat e75)[a10.toNat]?) fun (e78 : Int) =>
 (some (j9, false, ((data10.set j9.toNat e75).set a10.toNat e76))))
 else none))
 else none))
 else none))
 else none)
 else
 (if 0 ≤ j9 ∧ j9 < (data10.length : Int) then
 (Option.bind (data10[j9.toNat]?) fun (e79 : Int) =>
 (if 0 ≤ i9 ∧ i9 < (data10.length : Int) then
 (Option.bind (data10[i9.toNat]?) fun (e80 : Int) =>
 (if 0 ≤ i9 ∧ i9 < (data10.length : Int) then
 (Option.bind (data10[i9.toNat]?) fun (e81 : Int) =>
 (if 0 ≤ j9 ∧ j9 < ((data10.set i9.toNat e79).length : Int) then
 (Option.bind ((data10.set i9.toNat e79)[j9.toNat]?) fun (e82 : Int) =>
 (if fits (i9 + 1) then (if fits (j9 - 1) then (go7 (((data10.set i9.toNat e79).set j9.toNat e80), a10, (i9 + 1), (j9 - 1))) else none) else none))
 else none))
 else none))
 else none))
 else none)))) N (data9, a9, i8, j8)))))
 else none))
 else none)
 else
 (iter (fun (go10 : ((List Int) × Int × Int × Int) → Option (Int × Bool × (List Int))) (g : (List Int) × Int × Int × Int) =>
 match g with
 | (data11, a11, i10, j10) =>
 (bif (decide (i10 ≤ j10)) then
 (if 0 ≤ j10 ∧ j10 < (data11.length : Int) then
 (Option.bind (data11[j10.toNat]?) fun (e83 : Int) =>
 (if 0 ≤ a11 ∧ a11 < (data11.length : Int) then
 (Option.bind (data11[a11.toNat]?) fun (e84 : Int) =>
 (Option.bind (k_cmp_Less_67_m N e83 e84) fun (r8 : Bool) =>
 (bif (!r8) then
 (if fits (j10 - 1) then (go10 (data11, a11, i10, (j10 - 1))) else none)
 else
 (bif (decide (j10 < i10)) then
 (if 0 ≤ a11 ∧ a11 < (data11.length : Int) then
 (Option.bind (data11[a11.toNat]?) fun (e85 : Int) =>
 (if 0 ≤ j10 ∧ j10 < (data11.length : Int) then
 (Option.bind (data11[j10.toNat]?) fun (e86 : Int) =>
 (if 0 ≤ j10 ∧ j10 < (data11.length : Int) then
 (Option.bind (data11[j10.toNat]?) fun (e87 : Int) =>
 (if 0 ≤ a11 ∧ a11 < ((data11.set j10.toNat e85).length : Int) then
 (Option.bind ((data11.set j10.toNat e85)[a11.toNat]?) fun (e88 : Int) =>
 (some (j10, false, ((data11.set j10.toNat e85).set a11.toNat e86))))
 else none))
 else none))
 else none))
 else none)
 else
 (if 0 ≤ j10 ∧ j10 < (data11.length : Int) then
 (Option.bind (data11[j10.toNat]?) fun (e89 : Int) =>
 (if 0 ≤ i10 ∧ i10 < (data11.length : Int) then
 (Option.bind (data11[i10.toNat]?) fun (e90 : Int) =>
 (if 0 ≤ i10 ∧ i10 < (data11.length : Int) then
 (Option.bind (data11[i10.toNat]?) fun (e91 : Int) =>
 (if 0 ≤ j10 ∧ j10 < ((data11.set i10.toNat e89).length : Int) then
 (Option.bind ((data11.set i10.toNat e89)[j10.toNat]?) fun (e92 : Int) =>
 (if fits (i10 + 1) then (if fits (j10 - 1) then (go7 (((data11.set i10.toNat e89).set j10.toNat e90), a11, (i10 + 1), (j10 - 1))) else none) else none))
 else none))
 else none))
 else none))
 else none)))))
 else none))
 else none)
 else
 (bif (decide (j10 < i10)) then
 (if 0 ≤ a11 ∧ a11 < (data11.length : Int) then
 (Option.bind (data11[a11.toNat]?) fun (e93 : Int) =>
 (if 0 ≤ j10 ∧ j10 < (data11.length : Int) then
 (Option.bind (data11[j10.toNat]?) fun (e94 : Int) =>
 (if 0 ≤ j10 ∧ j10 < (data11.length : Int) then
 (Option.bind (data11[j10.toNat]?) fun (e95 : Int) =>
 (if 0 ≤ a11 ∧ a11 < ((data11.set j10.toNat e93).length : Int) then
 (Option.bind ((data11.set j10.toNat e93)[a11.toNat]?) fun (e96 : Int) =>
 (some (j10, false, ((data11.set j10.toNat e93).set a11.toNat e94))))
 else none))
 else none))
 else none))
 else none)
 else
 (if 0 ≤ j10 ∧ j10 < (data11.length : Int) then
 (Option.bind (data11[j10.toNat]?) fun (e97 : Int) =>
 (if 0 ≤ i10 ∧ i10 < (data11.length : Int) then
 (Option.bind (data11[i10.toNat]?) fun (e98 : Int) =>
 (if 0 ≤ i10 ∧ i10 < (data11.length : Int) then
 (Option.bind (data11[i10.toNat]?) fun (e99 : Int) =>
 (if 0 ≤ j10 ∧ j10 < ((data11.set i10.toNat e97).length : Int) then
 (Option.bind ((data11.set i10.toNat e97)[j10.toNat]?) fun (e100 : Int) =>
 (if fits (i10 + 1) then (if fits (j10 - 1) then (go7 (((data11.set i10.toNat e97).set j10.toNat e98), a11, (i10 + 1), (j10 - 1))) else none) else none))
 else none))
 else none))
 else none))
 else none)))) N (data9, a9, i8, j8)))) N (data8, a8, i7, j7))) N (((data3.set i2.toNat e59).set j2.toNat e60), a3, (i2 + 1), (j2 - 1))) else none) else none))
 else none))
 else none))
 else none))
 else none)))) N (data2, a2, i, j)))))
 else none))
 else none)
 else
 (iter (fun (go11 : ((List Int) × Int × Int × Int) → Option (Int × Bool × (List Int))) (g : (List Int) × Int × Int × Int) =>
 match g with
 | (data12, a12, i11, j11) =>
 (bif (decide (i11 ≤ j11)) then
 (if 0 ≤ j11 ∧ j11 < (data12.length : Int) then
 (Option.bind (data12[j11.toNat]?) fun (e101 : Int) =>
 (if 0 ≤ a12 ∧ a12 < (data12.length : Int) then
 (Option.bind (data12[a12.toNat]?) fun (e102 : Int) =>
 (Option.bind (k_cmp_Less_67_m N e101 e102) fun (r9 : Bool) =>
 (bif (!r9) then
 (if fits (j11 - 1) then (go11 (data12, a12, i11, (j11 - 1))) else none)
 else
 (bif (decide (j11 < i11)) then
 (if 0 ≤ a12 ∧ a12 < (data12.length : Int) then
 (Option.bind (data12[a12.toNat]?) fun (e103 : Int) =>
 (if 0 ≤ j11 ∧ j11 < (data12.length : Int) then
 (Option.bind (data12[j11.toNat]?) fun (e104 : Int) =>
 (if 0 ≤ j11 ∧ j11 < (data12.length : Int) then
 (Option.bind (data12[j11.toNat]?) fun (e105 : Int) =>
 (if 0 ≤ a12 ∧ a12 < ((data12.set j11.toNat e103).length : Int) then
 (Option.bind ((data12.set j11.toNat e103)[a12.toNat]?) fun (e106 : Int) =>
 (some (j11, true, ((data12.set j11.toNat e103).set a12.toNat e104))))
 else none))
 else none))
 else none))
 else none)
 else
 (if 0 ≤ j11 ∧ j11 < (data12.length : Int) then
 (Option.bind (data12[j11.toNat]?) fun (e107 : Int) =>
 (if 0 ≤ i11 ∧ i11 < (data12.length : Int) then
 (Option.bind (data12[i11.toNat]?) fun (e108 : Int) =>
 (if 0 ≤ i11 ∧ i11 < (data12.length : Int) then
 (Option.bind (data12[i11.toNat]?) fun (e109 : Int) =>
 (if 0 ≤ j11 ∧ j11 < ((data12.set i11.toNat e107).length : Int) then
 (Option.bind ((data12.set i11.toNat e107)[j11.toNat]?) fun (e110 : Int) =>
 (if fits (i11 + 1) then (if fits (j11 - 1) then (iter (fun (go12 : ((List Int) × Int × Int × Int) → Option (Int × Bool × (List Int))) (g : (List Int) × Int × Int × Int) =>
 match g with
 | (data13, a13, i12, j12) =>
 (iter (fun (go13 : ((List Int) × Int × Int × Int) → Option (Int × Bool × (List Int))) (g : (List Int) × Int × Int × Int) =>
 match g with
 | (data14, a14, i13, j13) =>
 (bif (decide (i13 ≤ j13)) then
 (if 0 ≤ i13 ∧ i13 < (data14.length : Int) then
 (Option.bind (data14[i13.toNat]?) fun (e111 : Int) =>
 (if 0 ≤ a14 ∧ a14 < (data14.length : Int) then
 (Option.bind (data14[a14.toNat]?) fun (e112 : Int) =>
 (Option.bind (k_cmp_Less_67_m N e111 e112) fun (r10 : Bool) =>
 (bif r10 then
 (if fits (i13 + 1) then (go13 (data14, a14, (i13 + 1), j13)) else none)
 else
 (iter (fun (go14 : ((List Int) × Int × Int × Int) → Option (Int × Bool × (List Int))) (g : (List Int) × Int × Int × Int) =>
 match g with
 | (data15, a15, i14, j14) =>
 (bif (decide (i14 ≤ j14)) then
 (if 0 ≤ j14 ∧ j14 < (data15.length : Int) then
 (Option.bind (data15[j14.toNat]?) fun (e113 : Int) =>
 (if 0 ≤ a15 ∧ a15 < (data15.length : Int) then
 (Option.bind (data15[a15.toNat]?) fun (e114 : Int) =>
 (Option.bind (k_cmp_Less_67_m N e113 e114) fun (r11 : Bool) =>
 (bif (!r11) then
 (if fits (j14 - 1) then (go14 (data15, a15, i14, (j14 - 1))) else none)
 else
 (bif (decide (j14 < i14)) then
 (if 0 ≤ a15 ∧ a15 < (data15.length : Int) then
 (Option.bind (data15[a15.toNat]?) fun (e115 : Int) =>
 (if 0 ≤ j14 ∧ j14 < (data15.length : Int) then
 (Option.bind (data15[j14.toNat]?) fun (e116 : Int) =>
 (if 0 ≤ j14 ∧ j14 < (data15.length : Int) then
 (Option.bind (data15[j14.toNat]?) fun (e117 : Int) =>
 (if 0 ≤ a15 ∧ a15 < ((data15.set j14.toNat e115).length : Int) then
 (Option.bind ((data15.set j14.toNat e115)[a15.toNat]?) fun (e118 : Int) =>
 (some (j14, false, ((data15.set j14.toNat e115).set a15.toNat e116))))
 else none))
 else none))
 else none))
 else none)
 else
 (if 0 ≤ j14 ∧ j14 < (data15.length : Int) then
 (Option.bind (data15[j14.toNat]?) fun (e119 : Int) =>
 (if 0 ≤ i14 ∧ i14 < (data15.length : Int) then
 (Option.bind (data15[i14.toNat]?) fun (e120 : Int) =>
 (if 0 ≤ i14 ∧ i14 < (data15.length : Int) then
 (Option.bind (data15[i14.toNat]?) fun (e121 : Int) =>
 (if 0 ≤ j14 ∧ j14 < ((data15.set i14.toNat e119).length : Int) then
 (Option.bind ((data15.set i14.toNat e119)[j14.toNat]?) fun (e122 : Int) =>
 (if fits (i14 + 1) then (if fits (j14 - 1) then (go12 (((data15.set i14.toNat e119).set j14.toNat e120), a15, (i14 + 1), (j14 - 1))) else none) else none))
 else none))
 else none))
 else none))
 else none)))))
 else none))
 else none)
 else
 (bif (decide (j14 < i14)) then
 (if 0 ≤ a15 ∧ a15 < (data15.length : Int) then
 (Option.bind (data15[a15.toNat]?) fun (e123 : Int) =>
 (if 0 ≤ j14 ∧ j14 < (data15.length : Int) then
 (Option.bind (data15[j14.toNat]?) fun (e124 : Int) =>
 (if 0 ≤ j14 ∧ j14 < (data15.length : Int) then
 (Option.bind (data15[j14.toNat]?) fun (e125 : Int) =>
 (if 0 ≤ a15 ∧ a15 < ((data15.set j14.toNat e123).length : Int) then
 (Option.bind ((data15.set j14.toNat e123)[a15.toNat]?) fun (e126 : Int) =>
 (some (j14, false, ((data15.set j14.toNat e123).set a15.toNat e124))))
 else none))
 else none))
 else none))
 else none)
 else
 (if 0 ≤ j14 ∧ j14 < (data15.length : Int) then
 (Option.bind (data15[j14.toNat]?) fun (e127 : Int) =>
 (if 0 ≤ i14 ∧ i14 < (data15.length : Int) then
 (Option.bind (data15[i14.toNat]?) fun (e128 : Int) =>
 (if 0 ≤ i14 ∧ i14 < (data15.length : Int) then
 (Option.bind (data15[i14.toNat]?) fun (e129 : Int) =>
 (if 0 ≤ j14 ∧ j14 < ((data15.set i14.toNat e127).length : Int) then
 (Option.bind ((data15.set i14.toNat e127)[j14.toNat]?) fun (e130 : Int) =>
 (if fits (i14 + 1) then (if fits (j14 - 1) then (go12 (((data15.set i14.toNat e127).set j14.toNat e128), a15, (i14 + 1), (j14 - 1))) else none) else none))
 else none))
 else none))
 else none))
 else none)))) N (data14, a14, i13, j13)))))
 else none))
 else none)
 else
 (iter (fun (go15 : ((List Int) × Int × Int × Int) → Option (Int × Bool × (List Int))) (g : (List Int) × Int × Int × Int) =>
 match g with
 | (data16, a16, i15, j15) =>
 (bif (decide (i15 ≤ j15)) then
 (if 0 ≤ j15 ∧ j15 < (data16.length : Int) then
 (Option.bind (data16[j15.toNat]?) fun (e131 : Int) =>
 (if 0 ≤ a16 ∧ a16 < (data16.length : Int) then
 (Option.bind (data16[a16.toNat]?) fun (e132 : Int) =>
 (Option.bind (k_cmp_Less_67_m N e131 e132) fun (r12 : Bool) =>
 (bif (!r12) then
 (if fits (j15 - 1) then (go15 (data16, a16, i15, (j15 - 1))) else none)
 else
 (bif (decide (j15 < i15)) then
 (if 0 ≤ a16 ∧ a16 < (data16.length : Int) then
 (Option.bind (data16[a16.toNat]?) fun (e133 : Int) =>
 (if 0 ≤ j15 ∧ j15 < (data16.length : Int) then
 (Option.bind (data16[j15.toNat]?) fun (e134 : Int) =>
 (if 0 ≤ j15 ∧ j15 < (data16.length : Int) then
 (Option.bind (data16[j15.toNat]?) fun (e135 : Int) =>
 (if 0 ≤ a16 ∧ a16 < ((data16.set j15.toNat e133).length : Int) then
 (Option.bind ((data16.set j15.toNat e133)[a16.toNat]?) fun (e136 : Int) =>
 (some (j15, false, ((data16.set j15.toNat e133).set a16.toNat e134))))
 else none))
 else none))
 else none))
 else none)
 else
 (if 0 ≤ j15 ∧ j15 < (data16.length : Int) then
 (Option.bind (data16[j15.toNat]?) fun (e137 : Int) =>
 (if 0 ≤ i15 ∧ i15 < (data16.length : Int) then
 (Option.bind (data16[i15.toNat]?) fun (e138 : Int) =>
 (if 0 ≤ i15 ∧ i15 < (data16.length : Int) then
 (Option.bind (data16[i15.toNat]?) fun (e139 : Int) =>
 (if 0 ≤ j15 ∧ j15 < ((data16.set i15.toNat e137).length : Int) then
 (Option.bind ((data16.set i15.toNat e137)[j15.toNat]?) fun (e140 : Int) =>
 (if fits (i15 + 1) then (if fits (j15 - 1) then (go12 (((data16.set i15.toNat e137).set j15.toNat e138), a16, (i15 + 1), (j15 - 1))) else none) else none))
 else none))
 else none))
 else none))
 else none)))))
 else none))
 else none)
 else
 (bif (decide (j15 < i15)) then
 (if 0 ≤ a16 ∧ a16 < (data16.length : Int) then
 (Option.bind (data16[a16.toNat]?) fun (e141 : Int) =>
 (if 0 ≤ j15 ∧ j15 < (data16.length : Int) then
 (Option.bind (data16[j15.toNat]?) fun (e142 : Int) =>
 (if 0 ≤ j15 ∧ j15 < (data16.length : Int) then
 (Option.bind (data16[j15.toNat]?) fun (e143 : Int) =>
 (if 0 ≤ a16 ∧ a16 < ((data16.set j15.toNat e141).length : Int) then
 (Option.bind ((data16.set j15.toNat e141)[a16.toNat]?) fun (e144 : Int) =>
 (some (j15, false, ((data16.set j15.toNat e141).set a16.toNat e142))))
 else none))
 else none))
 else none))
 else none)
 else
 (if 0 ≤ j15 ∧ j15 < (data16.length : Int) then
 (Option.bind (data16[j15.toNat]?) fun (e145 : Int) =>
 (if 0 ≤ i15 ∧ i15 < (data16.length : Int) then
 (Option.bind (data16[i15.toNat]?) fun (e146 : Int) =>
 (if 0 ≤ i15 ∧ i15 < (data16.length : Int) then
 (Option.bind (data16[i15.toNat]?) fun (e147 : Int) =>
 (if 0 ≤ j15 ∧ j15 < ((data16.set i15.toNat e145).length : Int) then
 (Option.bind ((data16.set i15.toNat e145)[j15.toNat]?) fun (e148 : Int) =>
 (if fits (i15 + 1) then (if fits (j15 - 1) then (go12 (((data16.set i15.toNat e145).set j15.toNat e146), a16, (i15 + 1), (j15 - 1))) else none) else none))
 else none))
 else none))
 else none))
 else none)))) N (data14, a14, i13, j13)))) N (data13, a13, i12, j12))) N (((data12.set i11.toNat e107).set j11.toNat e108), a12, (i11 + 1), (j11 - 1))) else none) else none))
 else none))
 else none))
 else none))
 else none)))))
 else none))
 else none)
 else
 (bif (decide (j11 < i11)) then
 (if 0 ≤ a12 ∧ a12 < (data12.length : Int) then
 (Option.bind (data12[a12.toNat]?) fun (e149 : Int) =>
 (if 0 ≤ j11 ∧ j11 < (data12.length : Int) then
 (Option.bind (data12[j11.toNat]?) fun (e150 : Int) =>
 (if 0 ≤ j11 ∧ j11 < (data12.length : Int) then
 (Option.bind (data12[j11.toNat]?) fun (e151 : Int) =>
 (if 0 ≤ a12 ∧ a12 < ((data12.set j11.toNat e149).length : Int) then
 (Option.bind ((data12.set j11.toNat e149)[a12.toNat]?) fun (e152 : Int) =>
 (some (j11, true, ((data12.set j11.toNat e149).set a12.toNat e150))))
 else none))
 else none))
 else none))
 else none)
 else
 (if 0 ≤ j11 ∧ j11 < (data12.length : Int) then
 (Option.bind (data12[j11.toNat]?) fun (e153 : Int) =>
 (if 0 ≤ i11 ∧ i11 < (data12.length : Int) then
 (Option.bind (data12[i11.toNat]?) fun (e154 : Int) =>
 (if 0 ≤ i11 ∧ i11 < (data12.length : Int) then
 (Option.bind (data12[i11.toNat]?) fun (e155 : Int) =>
 (if 0 ≤ j11 ∧ j11 < ((data12.set i11.toNat e153).length : Int) then
 (Option.bind ((data12.set i11.toNat e153)[j11.toNat]?) fun (e156 : Int) =>
 (if fits (i11 + 1) then (if fits (j11 - 1) then (iter (fun (go16 : ((List Int) × Int × Int × Int) → Option (Int × Bool × (List Int))) (g : (List Int) × Int × Int × Int) =>
 match g with
 | (data17, a17, i16, j16) =>
 (iter (fun (go17 : ((List Int) × Int × Int × Int) → Option (Int × Bool × (List Int))) (g : (List Int) × Int × Int × Int) =>
 match g with
 | (data18, a18, i17, j17) =>
 (bif (decide (i17 ≤ j17)) then
 (if 0 ≤ i17 ∧ i17 < (data18.length : Int) then
 (Option.bind (data18[i17.toNat]?) fun (e157 : Int) =>
 (if 0 ≤ a18 ∧ a18 < (data18.length : Int) then
 (Option.bind (data18[a18.toNat]?) fun (e158 : Int) =>
 (Option.bind (k_cmp_Less_67_m N e157 e158) fun (r13 : Bool) =>
 (bif r13 then
 (if fits (i17 + 1) then (go17 (data18, a18, (i17 + 1), j17)) else none)
 else
 (iter (fun (go18 : ((List Int) × Int × Int × Int) → Option (Int × Bool × (List Int))) (g : (List Int) × Int × Int × Int) =>
 match g with
 | (data19, a19, i18, j18) =>
 (bif (decide (i18 ≤ j18)) then
 (if 0 ≤ j18 ∧ j18 < (data19.length : Int) then
 (Option.bind (data19[j18.toNat]?) fun (e159 : Int) =>
 (if 0 ≤ a19 ∧ a19 < (data19.length : Int) then
 (Option.bind (data19[a19.toNat]?) fun (e160 : Int) =>
 (Option.bind (k_cmp_Less_67_m N e159 e160) fun (r14 : Bool) =>
 (bif (!r14) then
 (if fits (j18 - 1) then (go18 (data19, a19, i18, (j18 - 1))) else none)
 else
 (bif (decide (j18 < i18)) then
 (if 0 ≤ a19 ∧ a19 < (data19.length : Int) then
 (Option.bind (data19[a19.toNat]?) fun (e161 : Int) =>
 (if 0 ≤ j18 ∧ j18 < (data19.length : Int) then
 (Option.bind (data19[j18.toNat]?) fun (e162 : Int) =>
 (if 0 ≤ j18 ∧ j18 < (data19.length : Int) then
 (Option.bind (data19[j18.toNat]?) fun (e163 : Int) =>
 (if 0 ≤ a19 ∧ a19 < ((data19.set j18.toNat e161).length : Int) then
 (Option.bind ((data19.set j18.toNat e161)[a19.toNat]?) fun (e164 : Int) =>
 (some (j18, false, ((data19.set j18.toNat e161).set a19.toNat e162))))
 else none))
 else none))
 else none))
 else none)
 else
 (if 0 ≤ j18 ∧ j18 < (data19.length : Int) then
 (Option.bind (data19[j18.toNat]?) fun (e165 : Int) =>
 (if 0 ≤ i18 ∧ i18 < (data19.length : Int) then
 (Option.bind (data19[i18.toNat]?) fun (e166 : Int) =>
 (if 0 ≤ i18 ∧ i18 < (data19.length : Int) then
 (Option.bind (data19[i18.toNat]?) fun (e167 : Int) =>
 (if 0 ≤ j18 ∧ j18 < ((data19.set i18.toNat e165).length : Int) then
 (Option.bind ((data19.set i18.toNat e165)[j18.toNat]?) fun (e168 : Int) =>
 (if fits (i18 + 1) then (if fits (j18 - 1) then (go16 (((data19.set i18.toNat e165).set j18.toNat e166), a19, (i18 + 1), (j18 - 1))) else none) else none))
 else none))
 else none))
 else none))
 else none)))))
 else none))
 else none)
 else
 (bif (decide (j18 < i18)) then
 (if 0 ≤ a19 ∧ a19 < (data19.length : Int) then
 (Option.bind (data19[a19.toNat]?) fun (e169 : Int) =>
 (if 0 ≤ j18 ∧ j18 < (data19.length : Int) then
 (Option.bind (data19[j18.toNat]?) fun (e170 : Int) =>
 (if 0 ≤ j18 ∧ j18 < (data19.length : Int) then
 (Option.bind (data19[j18.toNat]?) fun (e171 : Int) =>
 (if 0 ≤ a19 ∧ a19 < ((data19.set j18.toNat e169).length : Int) then
 (Option.bind ((data19.set j18.toNat e169)[a19.toNat]?) fun (e172 : Int) =>
 (some (j18, false, ((data19.set j18.toNat e169).set a19.toNat e170))))
 else none))
 else none))
 else none))
 else none)
 else
 (if 0 ≤ j18 ∧ j18 < (data19.length : Int) then
 (Option.bind (data19[j18.toNat]?) fun (e173 : Int) =>
 (if 0 ≤ i18 ∧ i18 < (data19.length : Int) then
 (Option.bind (data19[i18.toNat]?) fun (e174 : Int) =>
 (if 0 ≤ i18 ∧ i18 < (data19.length : Int) then
 (Option.bind (data19[i18.toNat]?) fun (e175 : Int) =>
 (if 0 ≤ j18 ∧ j18 < ((data19.set i18.toNat e173).length : Int) then
 (Option.bind ((data19.set i18.toNat e173)[j18.toNat]?) fun (e176 : Int) =>
 (if fits (i18 + 1) then (if fits (j18 - 1) then (go16 (((data19.set i18.toNat e173).set j18.toNat e174), a19, (i18 + 1), (j18 - 1))) else none) else none))
 else none))
 else none))
 else none))
 else none)))) N (data18, a18, i17, j17)))))
 else none))
 else none)
 else
 (iter (fun (go19 : ((List Int) × Int × Int × Int) → Option (Int × Bool × (List Int))) (g : (List Int) × Int × Int × Int) =>
 match g with
 | (data20, a20, i19, j19) =>
 (bif (decide (i19 ≤ j19)) then
 (if 0 ≤ j19 ∧ j19 < (data20.length : Int) then
 (Option.bind (data20[j19.toNat]?) fun (e177 : Int) =>
 (if 0 ≤ a20 ∧ a20 < (data20.length : Int) then
 (Option.bind (data20[a20.toNat]?) fun (e178 : Int) =>
 (Option.bind (k_cmp_Less_67_m N e177 e178) fun (r15 : Bool) =>
 (bif (!r15) then
 (if fits (j19 - 1) then (go19 (data20, a20, i19, (j19 - 1))) else none)
 else
 (bif (decide (j19 < i19)) then
 (if 0 ≤ a20 ∧ a20 < (data20.length : Int) then
 (Option.bind (data20[a20.toNat]?) fun (e179 : Int) =>
 (if 0 ≤ j19 ∧ j19 < (data20.length : Int) then
 (Option.bind (data20[j19.toNat]?) fun (e180 : Int) =>
 (if 0 ≤ j19 ∧ j19 < (data20.length : Int) then
 (Option.bind (data20[j19.toNat]?) fun (e181 : Int) =>
 (if 0 ≤ a20 ∧ a20 < ((data20.set j19.toNat e179).length : Int) then
 (Option.bind ((data20.set j19.toNat e179)[a20.toNat]?) fun (e182 : Int) =>
 (some (j19, false, ((data20.set j19.toNat e179).set a20.toNat e180))))
 else none))
 else none))
 else none))
 else none)
 else
 (if 0 ≤ j19 ∧ j19 < (data20.length : Int) then
 (Option.bind (data20[j19.toNat]?) fun (e183 : Int) =>
 (if 0 ≤ i19 ∧ i19 < (data20.length : Int) then
 (Option.bind (data20[i19.toNat]?) fun (e184 : Int) =>
 (if 0 ≤ i19 ∧ i19 < (data20.length : Int) then
 (Option.bind (data20[i19.toNat]?) fun (e185 : Int) =>
 (if 0 ≤ j19 ∧ j19 < ((data20.set i19.toNat e183).length : Int) then
 (Option.bind ((data20.set i19.toNat e183)[j19.toNat]?) fun (e186 : Int) =>
 (if fits (i19 + 1) then (if fits (j19 - 1) then (go16 (((data20.set i19.toNat e183).set j19.toNat e184), a20, (i19 + 1), (j19 - 1))) else none) else none))
 else none))
 else none))
 else none))
 else none)))))
 else none))
 else none)
 else
 (bif (decide (j19 < i19)) then
 (if 0 ≤ a20 ∧ a20 < (data20.length : Int) then
 (Option.bind (data20[a20.toNat]?) fun (e187 : Int) =>
 (if 0 ≤ j19 ∧ j19 < (data20.length : Int) then
 (Option.bind (data20[j19.toNat]?) fun (e188 : Int) =>
 (if 0 ≤ j19 ∧ j19 < (data20.length : Int) then
 (Option.bind (data20[j19.toNat]?) fun (e189 : Int) =>
 (if 0 ≤ a20 ∧ a20 < ((data20.set j19.toNat e187).length : Int) then
 (Option.bind ((data20.set j19.toNat e187)[a20.toNat]?) fun (e190 : Int) =>
 (some (j19, false, ((data20.set j19.toNat e187).set a20.toNat e188))))
 else none))
 else none))
 else none))
 else none)
 else
 (if 0 ≤ j19 ∧ j19 < (data20.length : Int) then
 (Option.bind (data20[j19.toNat]?) fun (e191 : Int) =>
 (if 0 ≤ i19 ∧ i19 < (data20.length : Int) then
 (Option.bind (data20[i19.toNat]?) fun (e192 : Int) =>
 (if 0 ≤ i19 ∧ i19 < (data20.length : Int) then
 (Option.bind (data20[i19.toNat]?) fun (e193 : Int) =>
 (if 0 ≤ j19 ∧ j19 < ((data20.set i19.toNat e191).length : Int) then
 (Option.bind ((data20.set i19.toNat e191)[j19.toNat]?) fun (e194 : Int) =>
 (if fits (i19 + 1) then (if fits (j19 - 1) then (go16 (((data20.set i19.toNat e191).set j19.toNat e192), a20, (i19 + 1), (j19 - 1))) else none) else none))
 else none))
 else none))
 else none))
 else none)))) N (data18, a18, i17, j17)))) N (data17, a17, i16, j16))) N (((data12.set i11.toNat e153).set j11.toNat e154), a12, (i11 + 1), (j11 - 1))) else none) else none))
 else none))
 else none))
 else none))
 else none)))) N (data2, a2, i, j)))) N (((data.set a.toNat e).set pivot.toNat e2), a, (a + 1), (b - 1))) else none) else none))
 else none))
 else none))
 else none))
 else none)
def k_slices_partitionOrdered_800_M (N : Nat) : Model := ⟨k_slices_partitionOrdered_800_arg, k_slices_partitionOrdered_800_ret, fun a => k_slices_partitionOrdered_800_m N a.1 a.2.1 a.2.2.1 a.2.2.2⟩
set_option maxRecDepth 1000000 in
theorem k_slices_partitionOrdered_800_ok (N : Nat) : ModelOk Try.prog 70 (k_slices_partitionOrdered_800_M N) :=
  modelOk_of (E := mkEnv [(68, k_cmp_Less_67_M N)] [] [800000]) (mkEnv_ok (fnsOk_cons (k_cmp_Less_67_ok N) fnsOk_nil) _ _) Try.func70 (by kernel_rfl) rfl N k_slices_partitionOrdered_800_h (k_slices_partitionOrdered_800_M N) (by kernel_rfl) (by kernel_rfl) (fun a => by kernel_rfl)
/-! slices.pdqsortOrdered[int] -/
def k_slices_pdqsortOrdered_440_arg : Sh := ⟨[.mtk 800000 (.int .i64) 3 true, .pv (.int .i64), .pv (.int .i64), .pv (.int .i64)], []⟩
def k_slices_pdqsortOrdered_440_ret : Sh := ⟨[.tup [], .mtk 800000 (.int .i64) 3 true], []⟩
def k_slices_pdqsortOrdered_440_s1 : Sh := ⟨[.mtk 800000 (.int .i64) 3 true, .pv (.int .i64), .pv (.int .i64), .pv (.int .i64), .dead, .dead, .dead, .dead, .pv .bool, .pv .bool, .dead, .dead, .dead, .dead, .dead, .dead, .dead, .dead, .dead, .dead, .dead, .dead, .dead, .dead, .dead, .dead, .dead, .dead, .dead, .dead, .dead, .dead, .dead, .dead, .dead, .dead, .dead, .dead, .dead, .dead, .dead, .dead, .dead, .dead, .dead, .dead, .dead, .dead, .dead, .dead, .dead, .dead, .dead, .dead, .dead, .dead, .dead, .dead, .dead, .dead, .dead, .dead, .dead, .dead, .dead, .dead, .dead, .dead, .dead, .dead, .dead, .dead, .dead, .dead, .dead, .dead, .dead, .dead, .dead, .dead, .dead, .dead, .dead, .dead, .dead, .dead, .dead, .dead, .dead, .dead, .dead, .dead, .dead, .dead, .dead, .dead, .dead, .dead, .dead, .dead, .dead, .dead, .dead, .dead, .dead, .dead, .dead, .dead, .dead, .dead, .dead, .dead, .dead, .dead, .dead, .dead, .dead, .dead, .dead, .dead, .dead, .dead, .dead, .dead, .dead, .dead, .dead, .dead, .dead, .dead, .dead, .dead, .dead, .dead], []⟩
def k_slices_pdqsortOrdered_440_s2 : Sh := ⟨[.mtk 800000 (.int .i64) 3 true, .pv (.int .i64), .pv (.int .i64), .pv (.int .i64), .dead, .dead, .dead, .dead, .pv .bool, .pv .bool, .pv (.int .i64), .pv (.int .i64), .dead, .dead, .dead, .dead, .dead, .dead, .dead, .dead, .dead, .dead, .dead, .dead, .dead, .dead, .dead, .dead, .dead, .dead, .dead, .dead, .dead, .dead, .dead, .dead, .dead, .dead, .dead, .dead, .dead, .dead, .dead, .dead, .dead, .dead, .dead, .dead, .dead, .dead, .dead, .dead, .dead, .dead, .dead, .dead, .dead, .dead, .dead, .dead, .dead, .dead, .dead, .dead, .dead, .dead, .dead, .dead, .dead, .dead, .dead, .dead, .dead, .dead, .dead, .dead, .dead, .dead, .dead, .dead, .dead, .dead, .dead, .dead, .dead, .dead, .dead, .dead, .dead, .dead, .dead, .dead, .dead, .dead, .dead, .dead, .dead, .dead, .dead, .dead, .dead, .dead, .dead, .dead, .dead, .dead, .dead, .dead, .dead, .dead, .dead, .dead, .dead, .dead, .dead, .dead, .dead, .dead, .dead, .dead, .dead, .dead, .dead, .dead, .dead, .dead, .dead, .dead, .dead, .dead, .dead, .dead, .dead, .dead], []⟩
def k_slices_pdqsortOrdered_440_s3 : Sh := ⟨[.mtk 800000 (.int .i64) 3 true, .pv (.int .i64), .pv (.int .i64), .pv (.int .i64), .dead, .dead, .dead, .dead, .pv .bool, .pv .bool, .pv (.int .i64), .pv (.int .i64), .pv (.int .i64), .dead, .dead, .dead, .dead, .dead, .dead, .dead, .dead, .dead, .dead, .dead, .dead, .dead, .dead, .dead, .dead, .dead, .dead, .dead, .dead, .dead, .dead, .dead, .dead, .dead, .dead, .dead, .dead, .dead, .dead, .dead, .dead, .dead, .dead, .dead, .dead, .dead, .dead, .dead, .dead, .dead, .dead, .dead, .dead, .dead, .dead, .dead, .dead, .dead, .dead, .dead, .dead, .dead, .dead, .dead, .dead, .dead, .dead, .dead, .dead, .dead, .dead, .dead, .dead, .dead, .dead, .dead, .dead, .dead, .dead, .dead, .dead, .dead, .dead, .dead, .dead, .dead, .dead, .dead, .dead, .dead, .dead, .dead, .dead, .dead, .dead, .dead, .dead, .dead, .dead, .dead, .dead, .dead, .dead, .dead, .dead, .dead, .dead, .dead, .dead, .dead, .dead, .dead, .dead, .dead, .dead, .dead, .dead, .dead, .dead, .dead, .dead, .dead, .dead, .dead, .dead, .dead, .dead, .dead, .dead, .dead], []⟩
def k_slices_pdqsortOrdered_440_s4 : Sh := ⟨[.mtk 800000 (.int .i64) 3 true, .pv (.int .i64), .pv (.int .i64), .pv (.int .i64), .dead, .dead, .dead, .dead, .pv .bool, .pv .bool, .pv (.int .i64), .dead, .dead, .dead, .dead, .dead, .dead, .dead, .dead, .dead, .dead, .dead, .dead, .dead, .dead, .dead, .dead, .dead, .dead, .dead, .dead, .dead, .dead, .dead, .dead, .dead, .dead, .dead, .dead, .dead, .dead, .dead, .dead, .dead, .dead, .dead, .dead, .dead, .dead, .dead, .dead, .dead, .dead, .dead, .dead, .dead, .dead, .dead, .dead, .dead, .dead, .dead, .dead, .dead, .dead, .dead, .dead, .dead, .dead, .dead, .dead, .dead, .dead, .dead, .dead, .dead, .dead, .dead, .dead, .dead, .dead, .dead, .dead, .dead, .dead, .dead, .dead, .dead, .dead, .dead, .dead, .dead, .dead, .dead, .dead, .dead, .dead, .dead, .dead, .dead, .dead, .dead, .dead, .dead, .dead, .dead, .dead, .dead, .dead, .dead, .dead, .dead, .dead, .dead, .dead, .dead, .dead, .dead, .dead, .dead, .dead, .dead, .dead, .dead, .dead, .dead, .dead, .dead, .dead, .dead, .dead, .dead, .dead, .dead], []⟩
def k_slices_pdqsortOrdered_440_h : Hint := (.seq .no (.seq .no (.block (.loop k_slices_pdqsortOrdered_440_s1 (.block (.seq .no (.seq .no (.seq .no (.meet k_slices_pdqsortOrdered_440_s4 .no (.seq .no (.meet k_slices_pdqsortOrdered_440_s3 .no (.meet k_slices_pdqsortOrdered_440_s2 .no .no))))))))))))
def k_slices_pdqsortOrdered_440_m (N : Nat) : (D : Nat) → (List Int) → Int → Int → Int → Option ((List Int))
 | 0, _, _, _, _ => none
 | D + 1, data, a, b, limit =>
 (iter (fun (go : ((List Int) × Int × Int × Int × Bool × Bool) → Option ((List Int))) (g : (List Int) × Int × Int × Int × Bool × Bool) =>
 match g with
 | (data2, a2, b2, limit2, wasBalanced, wasPartitioned) =>
 (if fits (b2 - a2) then (bif (decide ((b2 - a2) ≤ 12)) then
 (Option.bind (k_slices_insertionSortOrdered_555_m N data2 a2 b2) fun (r : (List Int)) =>
 (some r))
 else
 (bif (decide (limit2 = 0)) then
 (Option.bind (k_slices_heapSortOrdered_977_m N data2 a2 b2) fun (r2 : (List Int)) =>
 (some r2))
 else
 (meet (fun (g : (List Int) × Int × Int × Int × Bool × Bool × Int) =>
 match g with
 | (data3, a3, b3, limit3, wasBalanced2, wasPartitioned2, length) =>
 (Option.bind (k_slices_choosePivotOrdered_921_m N data3 a3 b3) fun (r4 : Int × Int × (List Int)) =>
 (meet (fun (g : (List Int) × Int × Int × Int × Bool × Bool × Int × Int × Int) =>
 match g with
 | (data4, a4, b4, limit4, wasBalanced3, wasPartitioned3, length2, pivot, hint) =>
 (meet (fun (g : (List Int) × Int × Int × Int × Bool × Bool × Int × Int) =>
 match g with
 | (data5, a5, b5, limit5, wasBalanced4, wasPartitioned4, length3, pivot2) =>
 (bif (decide ((0 : Int) < a5)) then
 (if fits (a5 - 1) then (if 0 ≤ (a5 - 1) ∧ (a5 - 1) < (data5.length : Int) then
 (Option.bind (data5[(a5 - 1).toNat]?) fun (e : Int) =>
 (if 0 ≤ pivot2 ∧ pivot2 < (data5.length : Int) then
 (Option.bind (data5[pivot2.toNat]?) fun (e2 : Int) =>
 (Option.bind (k_cmp_Less_67_m N e e2) fun (r7 : Bool) =>
 (bif (!r7) then
 (Option.bind (k_slices_partitionEqualOrdered_694_m N data5 a5 b5 pivot2) fun (r8 : Int × (List Int)) =>
 (go (r8.2, r8.1, b5, limit5, wasBalanced4, wasPartitioned4)))
 else
 (Option.bind (k_slices_partitionOrdered_800_m N data5 a5 b5 pivot2) fun (r9 : Int × Bool × (List Int)) =>
 (if fits (r9.1 - a5) then (if fits (b5 - r9.1) then (if 8 ≠ 0 then
 (if fits (length3.tdiv 8) then (bif (decide ((r9.1 - a5) < (b5 - r9.1))) then
 (Option.bind (k_slices_pdqsortOrdered_440_m N D r9.2.2 a5 r9.1 limit5) fun (r10 : (List Int)) =>
 (if fits (r9.1 + 1) then (go (r10, (r9.1 + 1), b5, limit5, (decide ((length3.tdiv 8) ≤ (r9.1 - a5))), r9.2.1)) else none))
 else
 (if fits (r9.1 + 1) then (Option.bind (k_slices_pdqsortOrdered_440_m N D r9.2.2 (r9.1 + 1) b5 limit5) fun (r11 : (List Int)) =>
 (go (r11, a5, r9.1, limit5, (decide ((length3.tdiv 8) ≤ (b5 - r9.1))), r9.2.1))) else none)) else none)
 else none) else none) else none)))))
 else none))
 else none) else none)
 else
 (Option.bind (k_slices_partitionOrdered_800_m N data5 a5 b5 pivot2) fun (r12 : Int × Bool × (List Int)) =>
 (if fits (r12.1 - a5) then (if fits (b5 - r12.1) then (if 8 ≠ 0 then
 (if fits (length3.tdiv 8) then (bif (decide ((r12.1 - a5) < (b5 - r12.1))) then
 (Option.bind (k_slices_pdqsortOrdered_440_m N D r12.2.2 a5 r12.1 limit5) fun (r13 : (List Int)) =>
 (if fits (r12.1 + 1) then (go (r13, (r12.1 + 1), b5, limit5, (decide ((length3.tdiv 8) ≤ (r12.1 - a5))), r12.2.1)) else none))
 else
 (if fits (r12.1 + 1) then (Option.bind (k_slices_pdqsortOrdered_440_m N D r12.2.2 (r12.1 + 1) b5 limit5) fun (r14 : (List Int)) =>
 (go (r14, a5, r12.1, limit5, (decide ((length3.tdiv 8) ≤ (b5 - r12.1))), r12.2.1))) else none)) else none)
 else none) else none) else none)))) fun (J3 : ((List Int) × Int × Int × Int × Bool × Bool × Int × Int) → Option ((List Int))) =>
 (bif wasBalanced3 then
 (bif wasPartitioned3 then
 (bif (decide (hint = 1)) then
 (Option.bind (k_slices_partialInsertionSortOrdered_987_m N data4 a4 b4) fun (r6 : Bool × (List Int)) =>
 (bif r6.1 then
 (some r6.2)
 else
 (J3 (r6.2, a4, b4, limit4, wasBalanced3, wasPartitioned3, length2, pivot))))
 else
 (J3 (data4, a4, b4, limit4, wasBalanced3, wasPartitioned3, length2, pivot)))
 else
 (J3 (data4, a4, b4, limit4, wasBalanced3, wasPartitioned3, length2, pivot)))
 else
 (J3 (data4, a4, b4, limit4, wasBalanced3, wasPartitioned3, length2, pivot))))) fun (J2 : ((List Int) × Int × Int × Int × Bool × Bool × Int × Int × Int) → Option ((List Int))) =>
 (bif (decide (r4.2.1 = 2)) then
 (Option.bind (k_slices_reverseRangeOrdered_43_m N r4.2.2 a3 b3) fun (r5 : (List Int)) =>
 (if fits (b3 - 1) then (if fits (r4.1 - a3) then (if fits ((b3 - 1) - (r4.1 - a3)) then (J2 (r5, a3, b3, limit3, wasBalanced2, wasPartitioned2, length, ((b3 - 1) - (r4.1 - a3)), 1)) else none) else none) else none))
 else
 (J2 (r4.2.2, a3, b3, limit3, wasBalanced2, wasPartitioned2, length, r4.1, r4.2.1)))))) fun (J : ((List Int) × Int × Int × Int × Bool × Bool × Int) → Option ((List Int))) =>
 (bif (!wasBalanced) then
 (Option.bind (k_slices_breakPatternsOrdered_609_m N data2 a2 b2) fun (r3 : (List Int)) =>
 (if fits (limit2 - 1) then (J (r3, a2, b2, (limit2 - 1), wasBalanced, wasPartitioned, (b2 - a2))) else none))
 else
 (J (data2, a2, b2, limit2, wasBalanced, wasPartitioned, (b2 - a2))))))) else none)) N (data, a, b, limit, true, true))
def k_slices_pdqsortOrdered_440_M (N D : Nat) : Model := ⟨k_slices_pdqsortOrdered_440_arg, k_slices_pdqsortOrdered_440_ret, fun a => k_slices_pdqsortOrdered_440_m N D a.1 a.2.1 a.2.2.1 a.2.2.2⟩
set_option maxRecDepth 1000000 in
theorem k_slices_pdqsortOrdered_440_step (N D : Nat) (ih : ModelOk Try.prog 48 (k_slices_pdqsortOrdered_440_M N D)) : ModelOk Try.prog 48 (k_slices_pdqsortOrdered_440_M N (D + 1)) :=
  modelOk_of (E := mkEnv [(48, k_slices_pdqsortOrdered_440_M N D), (62, k_slices_insertionSortOrdered_555_M N), (63, k_slices_heapSortOrdered_977_M N), (64, k_slices_breakPatternsOrdered_609_M N), (65, k_slices_choosePivotOrdered_921_M N), (66, k_slices_reverseRangeOrdered_43_M N), (67, k_slices_partialInsertionSortOrdered_987_M N), (68, k_cmp_Less_67_M N), (69, k_slices_partitionEqualOrdered_694_M N), (70, k_slices_partitionOrdered_800_M N)] [] [800000]) (mkEnv_ok (fnsOk_cons ih (fnsOk_cons (k_slices_insertionSortOrdered_555_ok N) (fnsOk_cons (k_slices_heapSortOrdered_977_ok N) (fnsOk_cons (k_slices_breakPatternsOrdered_609_ok N) (fnsOk_cons (k_slices_choosePivotOrdered_921_ok N) (fnsOk_cons (k_slices_reverseRangeOrdered_43_ok N) (fnsOk_cons (k_slices_partialInsertionSortOrdered_987_ok N) (fnsOk_cons (k_cmp_Less_67_ok N) (fnsOk_cons (k_slices_partitionEqualOrdered_694_ok N) (fnsOk_cons (k_slices_partitionOrdered_800_ok N) fnsOk_nil)))))))))) _ _) Try.func48 (by kernel_rfl) rfl N k_slices_pdqsortOrdered_440_h (k_slices_pdqsortOrdered_440_M N (D + 1)) (by kernel_rfl) (by kernel_rfl) (fun a => by kernel_rfl)
theorem k_slices_pdqsortOrdered_440_ok (N : Nat) : ∀ D, ModelOk Try.prog 48 (k_slices_pdqsortOrdered_440_M N D)
  | 0 => modelOk_none ⟨_, Try.func48, by decide, by kernel_rfl⟩ _ (fun a => rfl)
  | D + 1 => k_slices_pdqsortOrdered_440_step N D (k_slices_pdqsortOrdered_440_ok N D)
/-! slices.Sort[[]int,int] -/
def k_slices_Sort_287_arg : Sh := ⟨[.mtk 800000 (.int .i64) 3 true], []⟩
def k_slices_Sort_287_ret : Sh := ⟨[.tup [], .mtk 800000 (.int .i64) 3 true], []⟩
def k_slices_Sort_287_h : Hint := .no
def k_slices_Sort_287_m (N : Nat) (x : List Int) : Option ((List Int)) :=
 (Option.bind (k_math_bits_Len_m N (IntKind.u64.wrap (x.length : Int))) fun (r : Int) =>
 (Option.bind (k_slices_pdqsortOrdered_440_m N N x 0 (x.length : Int) r) fun (r2 : (List Int)) =>
 (some r2)))
def k_slices_Sort_287_M (N : Nat) : Model := ⟨k_slices_Sort_287_arg, k_slices_Sort_287_ret, fun a => k_slices_Sort_287_m N a⟩
set_option maxRecDepth 1000000 in
theorem k_slices_Sort_287_ok (N : Nat) : ModelOk Try.prog 31 (k_slices_Sort_287_M N) :=
  modelOk_of (E := mkEnv [(49, k_math_bits_Len_M N), (48, k_slices_pdqsortOrdered_440_M N N)] [] [800000]) (mkEnv_ok (fnsOk_cons (k_math_bits_Len_ok N) (fnsOk_cons (k_slices_pdqsortOrdered_440_ok N N) fnsOk_nil)) _ _) Try.func31 (by kernel_rfl) rfl N k_slices_Sort_287_h (k_slices_Sort_287_M N) (by kernel_rfl) (by kernel_rfl) (fun a => by kernel_rfl)
/-! loop.example/fossick/impl.KnotsFind -/
def i_KnotsFind_arg : Sh := ⟨[.pv (.sl (.pair (.pair (.int .i64) (.pair (.int .i64) (.int .i64))) (.pair (.int .i64) (.pair (.int .i64) (.pair (.int .i64) (.pair (.int .i64) (.int .i64))))))), .agg [.pv (.int .i64), .pv (.int .i64), .pv (.int .i64), .pv (.int .i64)]], []⟩
def i_KnotsFind_ret : Sh := ⟨[.tup [.own 1 (.int .i64) 3 true, .pv (.int .i64)]], []⟩
def i_KnotsFind_h : Hint := .no
def i_KnotsFind_m (N : Nat) (x : List ((Int × Int × Int) × Int × Int × Int × Int × Int)) (b : Int) (b2 : Int) (b3 : Int) (b4 : Int) : Option ((List Int) × Int) :=
 (Option.bind (i_KnotsOk_m N x) fun (r : Bool) =>
 (bif (!r) then
 (some (([] : List Int), (-1)))
 else
 (Option.bind (i_BoxOk_m N b b2 b3 b4) fun (r2 : Bool) =>
 (bif (!r2) then
 (some (([] : List Int), (-1)))
 else
 (Option.bind (i_find_m N N x b b2 b3 b4) fun (r3 : (List Int) × Int) =>
 (Option.bind (k_slices_Sort_287_m N r3.1) fun (r4 : (List Int)) =>
 (some (r4, r3.2))))))))
def i_KnotsFind_M (N : Nat) : Model := ⟨i_KnotsFind_arg, i_KnotsFind_ret, fun a => i_KnotsFind_m N a.1 a.2.1 a.2.2.1 a.2.2.2.1 a.2.2.2.2⟩
set_option maxRecDepth 1000000 in
theorem i_KnotsFind_ok (N : Nat) : ModelOk Try.prog 7 (i_KnotsFind_M N) :=
  modelOk_of (E := mkEnv [(10, i_KnotsOk_M N), (12, i_BoxOk_M N), (30, i_find_M N N), (31, k_slices_Sort_287_M N)] [16] []) (mkEnv_ok (fnsOk_cons (i_KnotsOk_ok N) (fnsOk_cons (i_BoxOk_ok N) (fnsOk_cons (i_find_ok N N) (fnsOk_cons (k_slices_Sort_287_ok N) fnsOk_nil)))) _ _) Try.func7 (by kernel_rfl) rfl N i_KnotsFind_h (i_KnotsFind_M N) (by kernel_rfl) (by kernel_rfl) (fun a => by kernel_rfl)
/-! loop.example/fossick/spec.l1In -/
def s_l1In_arg : Sh := ⟨[.pv (.int .i64), .pv (.int .i64), .pv (.int .i64)], []⟩
def s_l1In_ret : Sh := ⟨[.pv .bool], []⟩
def s_l1In_h : Hint := .no
def s_l1In_m (N : Nat) (n : Int) (low : Int) (high : Int) : Option (Bool) :=
 (bif (decide (low ≤ n)) then
 (some (decide (n ≤ high)))
 else
 (some false))
def s_l1In_M (N : Nat) : Model := ⟨s_l1In_arg, s_l1In_ret, fun a => s_l1In_m N a.1 a.2.1 a.2.2⟩
set_option maxRecDepth 1000000 in
theorem s_l1In_ok (N : Nat) : ModelOk Try.prog 51 (s_l1In_M N) :=
  modelOk_of (E := mkEnv [] [] []) (mkEnv_ok fnsOk_nil _ _) Try.func51 (by kernel_rfl) rfl N s_l1In_h (s_l1In_M N) (by kernel_rfl) (by kernel_rfl) (fun a => by kernel_rfl)
/-! loop.example/fossick/spec.l15PointOk -/
def s_l15PointOk_arg : Sh := ⟨[.agg [.pv (.int .i64), .pv (.int .i64), .pv (.int .i64)]], []⟩
def s_l15PointOk_ret : Sh := ⟨[.pv .bool], []⟩
def s_l15PointOk_h : Hint := .no
def s_l15PointOk_m (N : Nat) (p : Int) (p2 : Int) (p3 : Int) : Option (Bool) :=
 (Option.bind (s_l1In_m N p 1 9999) fun (r : Bool) =>
 (bif r then
 (Option.bind (s_l1In_m N p2 0 999) fun (r2 : Bool) =>
 (bif r2 then
 (Option.bind (s_l1In_m N p3 0 999) fun (r3 : Bool) =>
 (some r3))
 else
 (some false)))
 else
 (some false)))
def s_l15PointOk_M (N : Nat) : Model := ⟨s_l15PointOk_arg, s_l15PointOk_ret, fun a => s_l15PointOk_m N a.1 a.2.1 a.2.2⟩
set_option maxRecDepth 1000000 in
theorem s_l15PointOk_ok (N : Nat) : ModelOk Try.prog 73 (s_l15PointOk_M N) :=
  modelOk_of (E := mkEnv [(51, s_l1In_M N)] [] []) (mkEnv_ok (fnsOk_cons (s_l1In_ok N) fnsOk_nil) _ _) Try.func73 (by kernel_rfl) rfl N s_l15PointOk_h (s_l15PointOk_M N) (by kernel_rfl) (by kernel_rfl) (fun a => by kernel_rfl)
/-! loop.example/fossick/spec.l15Points -/
def s_l15Points_arg : Sh := ⟨[.pv (.sl (.pair (.int .i64) (.pair (.int .i64) (.int .i64))))], []⟩
def s_l15Points_ret : Sh := ⟨[.pv .bool], []⟩
def s_l15Points_s1 : Sh := ⟨[.pv (.sl (.pair (.int .i64) (.pair (.int .i64) (.int .i64)))), .dead, .dead, .pv (.int .i64), .dead, .dead, .dead, .dead, .dead, .dead, .dead, .dead, .dead, .dead, .dead, .dead, .dead, .dead, .dead, .dead, .dead, .dead, .dead, .dead, .dead, .dead, .dead, .dead, .dead, .dead, .dead, .dead, .dead, .dead, .dead, .dead], []⟩
def s_l15Points_s2 : Sh := ⟨[.pv (.sl (.pair (.int .i64) (.pair (.int .i64) (.int .i64)))), .dead, .dead, .pv (.int .i64), .pv (.int .i64), .dead, .dead, .dead, .dead, .dead, .dead, .dead, .dead, .dead, .dead, .dead, .dead, .dead, .dead, .dead, .dead, .dead, .dead, .dead, .dead, .dead, .dead, .dead, .dead, .dead, .dead, .dead, .dead, .dead, .dead, .dead], []⟩
def s_l15Points_h : Hint := (.seq .no (.seq (.seq .no (.block (.loop s_l15Points_s1 (.seq .no (.seq (.block (.seq .no (.seq .no (.block (.loop s_l15Points_s2 .no))))) .no))))) .no))
def s_l15Points_m (N : Nat) (list : List (Int × Int × Int)) : Option (Bool) :=
 (iter (fun (go : ((List (Int × Int × Int)) × Int) → Option Bool) (g : (List (Int × Int × Int)) × Int) =>
 match g with
 | (list2, i) =>
 (bif (decide (i < (list2.length : Int))) then
 (Option.bind (idx list2 i) fun (e : Int × Int × Int) =>
 (Option.bind (s_l15PointOk_m N e.1 e.2.1 e.2.2) fun (r : Bool) =>
 (bif (!r) then
 (some false)
 else
 (iter (fun (go2 : ((List (Int × Int × Int)) × Int × Int) → Option Bool) (g : (List (Int × Int × Int)) × Int × Int) =>
 match g with
 | (list3, i2, k) =>
 (bif (decide (k < i2)) then
 (Option.bind (idx list3 k) fun (e2 : Int × Int × Int) =>
 (Option.bind (idx list3 i2) fun (e3 : Int × Int × Int) =>
 (bif (decide (e2.1 = e3.1)) then
 (some false)
 else
 (if fits (k + 1) then (go2 (list3, i2, (k + 1))) else none))))
 else
 (if fits (i2 + 1) then (go (list3, (i2 + 1))) else none))) N (list2, i, 0)))))
 else
 (some (decide ((list2.length : Int) ≤ 24))))) N (list, 0))
def s_l15Points_M (N : Nat) : Model := ⟨s_l15Points_arg, s_l15Points_ret, fun a => s_l15Points_m N a⟩
set_option maxRecDepth 1000000 in
theorem s_l15Points_ok (N : Nat) : ModelOk Try.prog 50 (s_l15Points_M N) :=
  modelOk_of (E := mkEnv [(73, s_l15PointOk_M N)] [] []) (mkEnv_ok (fnsOk_cons (s_l15PointOk_ok N) fnsOk_nil) _ _) Try.func50 (by kernel_rfl) rfl N s_l15Points_h (s_l15Points_M N) (by kernel_rfl) (by kernel_rfl) (fun a => by kernel_rfl)
/-! loop.example/fossick/spec.l15Ok -/
def s_l15Ok_arg : Sh := ⟨[.pv (.sl (.pair (.pair (.int .i64) (.pair (.int .i64) (.int .i64))) (.pair (.int .i64) (.pair (.int .i64) (.pair (.int .i64) (.pair (.int .i64) (.int .i64)))))))], []⟩
def s_l15Ok_ret : Sh := ⟨[.pv .bool], []⟩
def s_l15Ok_s1 : Sh := ⟨[.pv (.sl (.pair (.pair (.int .i64) (.pair (.int .i64) (.int .i64))) (.pair (.int .i64) (.pair (.int .i64) (.pair (.int .i64) (.pair (.int .i64) (.int .i64))))))), .dead, .dead, .own 600003 (.pair (.int .i64) (.pair (.int .i64) (.int .i64))) 36 true, .pv (.int .i64), .dead, .dead, .dead, .dead, .dead, .dead, .dead, .dead, .dead, .dead, .dead, .dead, .dead, .dead, .dead, .dead, .dead, .dead, .dead, .dead, .dead, .dead, .dead, .dead, .dead, .dead, .dead, .dead, .dead, .dead, .dead, .dead, .dead, .dead, .dead, .dead, .dead], []⟩
def s_l15Ok_s2 : Sh := ⟨[.pv (.sl (.pair (.pair (.int .i64) (.pair (.int .i64) (.int .i64))) (.pair (.int .i64) (.pair (.int .i64) (.pair (.int .i64) (.pair (.int .i64) (.int .i64))))))), .dead, .dead, .dead, .dead, .mtk 600005 (.pair (.pair (.int .i64) (.pair (.int .i64) (.int .i64))) (.pair (.int .i64) (.pair (.int .i64) (.pair (.int .i64) (.pair (.int .i64) (.int .i64)))))) 38 true, .pv (.int .i64), .dead, .dead, .dead, .dead, .dead, .dead, .dead, .dead, .dead, .dead, .dead, .dead, .dead, .dead, .dead, .dead, .dead, .dead, .dead, .dead, .dead, .dead, .dead, .dead, .dead, .dead, .dead, .dead, .dead, .dead, .dead, .dead, .dead, .dead, .dead], []⟩
def s_l15Ok_h : Hint := (.seq .no (.seq .no (.seq (.seq .no (.block (.loop s_l15Ok_s1 .no))) (.seq .no (.seq .no (.seq (.seq .no (.block (.loop s_l15Ok_s2 .no))) .no))))))
def s_l15Ok_m (N : Nat) (x : List ((Int × Int × Int) × Int × Int × Int × Int × Int)) : Option (Bool) :=
 (iter (fun (go : ((List ((Int × Int × Int) × Int × Int × Int × Int × Int)) × (List (Int × Int × Int)) × Int) → Option Bool) (g : (List ((Int × Int × Int) × Int × Int × Int × Int × Int)) × (List (Int × Int × Int)) × Int) =>
 match g with
 | (x2, list, i) =>
 (bif (decide (i < (x2.length : Int))) then
 (Option.bind (idx x2 i) fun (e : (Int × Int × Int) × Int × Int × Int × Int × Int) =>
 (if room list.length ([e.1] : List (Int × Int × Int)).length 24 then
 (if fits (i + 1) then (go (x2, (list ++ ([e.1] : List (Int × Int × Int))), (i + 1))) else none)
 else none))
 else
 (Option.bind (s_l15Points_m N list) fun (r : Bool) =>
 (bif (!r) then
 (some false)
 else
 (Option.bind (s_l15Build_m N N list false) fun (r2 : (List ((Int × Int × Int) × Int × Int × Int × Int × Int))) =>
 (iter (fun (go2 : ((List ((Int × Int × Int) × Int × Int × Int × Int × Int)) × (List ((Int × Int × Int) × Int × Int × Int × Int × Int)) × Int) → Option Bool) (g : (List ((Int × Int × Int) × Int × Int × Int × Int × Int)) × (List ((Int × Int × Int) × Int × Int × Int × Int × Int)) × Int) =>
 match g with
 | (x3, y, i2) =>
 (bif (decide (i2 < (x3.length : Int))) then
 (Option.bind (idx x3 i2) fun (e2 : (Int × Int × Int) × Int × Int × Int × Int × Int) =>
 (if 0 ≤ i2 ∧ i2 < (y.length : Int) then
 (Option.bind (y[i2.toNat]?) fun (e3 : (Int × Int × Int) × Int × Int × Int × Int × Int) =>
 (bif (!(((decide (e2.1.1 = e3.1.1)) && ((decide (e2.1.2.1 = e3.1.2.1)) && (decide (e2.1.2.2 = e3.1.2.2)))) && ((decide (e2.2.1 = e3.2.1)) && ((decide (e2.2.2.1 = e3.2.2.1)) && ((decide (e2.2.2.2.1 = e3.2.2.2.1)) && ((decide (e2.2.2.2.2.1 = e3.2.2.2.2.1)) && (decide (e2.2.2.2.2.2 = e3.2.2.2.2.2)))))))) then
 (some false)
 else
 (if fits (i2 + 1) then (go2 (x3, y, (i2 + 1))) else none)))
 else none))
 else
 (some true))) N (x2, r2, 0))))))) N (x, ([] : List (Int × Int × Int)), 0))
def s_l15Ok_M (N : Nat) : Model := ⟨s_l15Ok_arg, s_l15Ok_ret, fun a => s_l15Ok_m N a⟩
set_option maxRecDepth 1000000 in
theorem s_l15Ok_ok (N : Nat) : ModelOk Try.prog 32 (s_l15Ok_M N) :=
  modelOk_of (E := mkEnv [(50, s_l15Points_M N), (43, s_l15Build_M N N)] [] []) (mkEnv_ok (fnsOk_cons (s_l15Points_ok N) (fnsOk_cons (s_l15Build_ok N N) fnsOk_nil)) _ _) Try.func32 (by kernel_rfl) rfl N s_l15Ok_h (s_l15Ok_M N) (by kernel_rfl) (by kernel_rfl) (fun a => by kernel_rfl)
/-! loop.example/fossick/spec.l15BoxOk -/
def s_l15BoxOk_arg : Sh := ⟨[.agg [.pv (.int .i64), .pv (.int .i64), .pv (.int .i64), .pv (.int .i64)]], []⟩
def s_l15BoxOk_ret : Sh := ⟨[.pv .bool], []⟩
def s_l15BoxOk_h : Hint := .no
def s_l15BoxOk_m (N : Nat) (b : Int) (b2 : Int) (b3 : Int) (b4 : Int) : Option (Bool) :=
 (Option.bind (s_l1In_m N b 0 999) fun (r : Bool) =>
 (bif r then
 (Option.bind (s_l1In_m N b2 b 999) fun (r2 : Bool) =>
 (bif r2 then
 (Option.bind (s_l1In_m N b3 0 999) fun (r3 : Bool) =>
 (bif r3 then
 (Option.bind (s_l1In_m N b4 b3 999) fun (r4 : Bool) =>
 (some r4))
 else
 (some false)))
 else
 (some false)))
 else
 (some false)))
def s_l15BoxOk_M (N : Nat) : Model := ⟨s_l15BoxOk_arg, s_l15BoxOk_ret, fun a => s_l15BoxOk_m N a.1 a.2.1 a.2.2.1 a.2.2.2⟩
set_option maxRecDepth 1000000 in
theorem s_l15BoxOk_ok (N : Nat) : ModelOk Try.prog 33 (s_l15BoxOk_M N) :=
  modelOk_of (E := mkEnv [(51, s_l1In_M N)] [] []) (mkEnv_ok (fnsOk_cons (s_l1In_ok N) fnsOk_nil) _ _) Try.func33 (by kernel_rfl) rfl N s_l15BoxOk_h (s_l15BoxOk_M N) (by kernel_rfl) (by kernel_rfl) (fun a => by kernel_rfl)
/-! loop.example/fossick/spec.l15Apart -/
def s_l15Apart_arg : Sh := ⟨[.agg [.pv (.int .i64), .pv (.int .i64), .pv (.int .i64), .pv (.int .i64)], .agg [.pv (.int .i64), .pv (.int .i64), .pv (.int .i64), .pv (.int .i64)]], []⟩
def s_l15Apart_ret : Sh := ⟨[.pv .bool], []⟩
def s_l15Apart_h : Hint := .no
def s_l15Apart_m (N : Nat) (a : Int) (a2 : Int) (a3 : Int) (a4 : Int) (b : Int) (b2 : Int) (b3 : Int) (b4 : Int) : Option (Bool) :=
 (bif (decide (a2 < b)) then
 (some true)
 else
 (bif (decide (b2 < a)) then
 (some true)
 else
 (bif (decide (a4 < b3)) then
 (some true)
 else
 (some (decide (b4 < a3))))))
def s_l15Apart_M (N : Nat) : Model := ⟨s_l15Apart_arg, s_l15Apart_ret, fun a => s_l15Apart_m N a.1 a.2.1 a.2.2.1 a.2.2.2.1 a.2.2.2.2.1 a.2.2.2.2.2.1 a.2.2.2.2.2.2.1 a.2.2.2.2.2.2.2⟩
set_option maxRecDepth 1000000 in
theorem s_l15Apart_ok (N : Nat) : ModelOk Try.prog 52 (s_l15Apart_M N) :=
  modelOk_of (E := mkEnv [] [] []) (mkEnv_ok fnsOk_nil _ _) Try.func52 (by kernel_rfl) rfl N s_l15Apart_h (s_l15Apart_M N) (by kernel_rfl) (by kernel_rfl) (fun a => by kernel_rfl)
/-! loop.example/fossick/spec.l15In -/
def s_l15In_arg : Sh := ⟨[.agg [.pv (.int .i64), .pv (.int .i64), .pv (.int .i64)], .agg [.pv (.int .i64), .pv (.int .i64), .pv (.int .i64), .pv (.int .i64)]], []⟩
def s_l15In_ret : Sh := ⟨[.pv .bool], []⟩
def s_l15In_h : Hint := .no
def s_l15In_m (N : Nat) (p : Int) (p2 : Int) (p3 : Int) (b : Int) (b2 : Int) (b3 : Int) (b4 : Int) : Option (Bool) :=
 (Option.bind (s_l1In_m N p2 b b2) fun (r : Bool) =>
 (bif r then
 (Option.bind (s_l1In_m N p3 b3 b4) fun (r2 : Bool) =>
 (some r2))
 else
 (some false)))
def s_l15In_M (N : Nat) : Model := ⟨s_l15In_arg, s_l15In_ret, fun a => s_l15In_m N a.1 a.2.1 a.2.2.1 a.2.2.2.1 a.2.2.2.2.1 a.2.2.2.2.2.1 a.2.2.2.2.2.2⟩
set_option maxRecDepth 1000000 in
theorem s_l15In_ok (N : Nat) : ModelOk Try.prog 53 (s_l15In_M N) :=
  modelOk_of (E := mkEnv [(51, s_l1In_M N)] [] []) (mkEnv_ok (fnsOk_cons (s_l1In_ok N) fnsOk_nil) _ _) Try.func53 (by kernel_rfl) rfl N s_l15In_h (s_l15In_M N) (by kernel_rfl) (by kernel_rfl) (fun a => by kernel_rfl)
/-! loop.example/fossick/spec.l8Put -/
def s_l8Put_arg : Sh := ⟨[.pv (.sl (.int .i64)), .pv (.int .i64)], []⟩
def s_l8Put_ret : Sh := ⟨[.pv (.sl (.int .i64))], []⟩
def s_l8Put_s1 : Sh := ⟨[.pv (.sl (.int .i64)), .pv (.int .i64), .dead, .dead, .dead, .pv (.int .i64), .dead, .dead, .dead, .dead, .dead, .dead, .dead, .dead, .dead, .dead, .dead, .dead, .dead, .dead, .dead, .dead, .dead, .dead, .dead, .dead, .dead, .dead, .dead, .dead, .dead, .dead, .dead, .dead, .dead, .dead, .dead, .dead, .dead, .dead, .dead, .dead, .dead, .dead, .dead, .dead, .dead, .dead], []⟩
def s_l8Put_h : Hint := (.seq .no (.seq .no (.seq (.block (.loop s_l8Put_s1 .no)) .no)))
def s_l8Put_m (N : Nat) (list : List Int) (n : Int) : Option ((List Int)) :=
 (iter (fun (go : ((List Int) × Int × Int) → Option ((List Int))) (g : (List Int) × Int × Int) =>
 match g with
 | (list2, n2, k) =>
 (bif (decide (k < (list2.length : Int))) then
 (Option.bind (idx list2 k) fun (e : Int) =>
 (bif (decide (e < n2)) then
 (if fits (k + 1) then (go (list2, n2, (k + 1))) else none)
 else
 (bif (decide (k < (list2.length : Int))) then
 (Option.bind (idx list2 k) fun (e2 : Int) =>
 (bif (decide (e2 = n2)) then
 (some list2)
 else
 (Option.bind (cut list2 0 k) fun (y : List Int) =>
 (if room ([] : List Int).length y.length 8 then
 (if room (([] : List Int) ++ y).length ([n2] : List Int).length 8 then
 (Option.bind (cut list2 k (list2.length : Int)) fun (y2 : List Int) =>
 (if room ((([] : List Int) ++ y) ++ ([n2] : List Int)).length y2.length 8 then
 (some (((([] : List Int) ++ y) ++ ([n2] : List Int)) ++ y2))
 else none))
 else none)
 else none))))
 else
 (Option.bind (cut list2 0 k) fun (y3 : List Int) =>
 (if room ([] : List Int).length y3.length 8 then
 (if room (([] : List Int) ++ y3).length ([n2] : List Int).length 8 then
 (Option.bind (cut list2 k (list2.length : Int)) fun (y4 : List Int) =>
 (if room ((([] : List Int) ++ y3) ++ ([n2] : List Int)).length y4.length 8 then
 (some (((([] : List Int) ++ y3) ++ ([n2] : List Int)) ++ y4))
 else none))
 else none)
 else none)))))
 else
 (bif (decide (k < (list2.length : Int))) then
 (Option.bind (idx list2 k) fun (e3 : Int) =>
 (bif (decide (e3 = n2)) then
 (some list2)
 else
 (Option.bind (cut list2 0 k) fun (y5 : List Int) =>
 (if room ([] : List Int).length y5.length 8 then
 (if room (([] : List Int) ++ y5).length ([n2] : List Int).length 8 then
 (Option.bind (cut list2 k (list2.length : Int)) fun (y6 : List Int) =>
 (if room ((([] : List Int) ++ y5) ++ ([n2] : List Int)).length y6.length 8 then
 (some (((([] : List Int) ++ y5) ++ ([n2] : List Int)) ++ y6))
 else none))
 else none)
 else none))))
 else
 (Option.bind (cut list2 0 k) fun (y7 : List Int) =>
 (if room ([] : List Int).length y7.length 8 then
 (if room (([] : List Int) ++ y7).length ([n2] : List Int).length 8 then
 (Option.bind (cut list2 k (list2.length : Int)) fun (y8 : List Int) =>
 (if room ((([] : List Int) ++ y7) ++ ([n2] : List Int)).length y8.length 8 then
 (some (((([] : List Int) ++ y7) ++ ([n2] : List Int)) ++ y8))
 else none))
 else none)
 else none))))) N (list, n, 0))
def s_l8Put_M (N : Nat) : Model := ⟨s_l8Put_arg, s_l8Put_ret, fun a => s_l8Put_m N a.1 a.2⟩
set_option maxRecDepth 1000000 in
theorem s_l8Put_ok (N : Nat) : ModelOk Try.prog 74 (s_l8Put_M N) :=
  modelOk_of (E := mkEnv [] [] []) (mkEnv_ok fnsOk_nil _ _) Try.func74 (by kernel_rfl) rfl N s_l8Put_h (s_l8Put_M N) (by kernel_rfl) (by kernel_rfl) (fun a => by kernel_rfl)
/-! loop.example/fossick/spec.l8Or -/
def s_l8Or_arg : Sh := ⟨[.pv (.sl (.int .i64)), .pv (.sl (.int .i64))], []⟩
def s_l8Or_ret : Sh := ⟨[.pv (.sl (.int .i64))], []⟩
def s_l8Or_s1 : Sh := ⟨[.dead, .pv (.sl (.int .i64)), .dead, .dead, .dead, .pv (.sl (.int .i64)), .pv (.int .i64), .dead, .dead, .dead, .dead, .dead, .dead, .dead, .dead, .dead, .dead, .dead, .dead, .dead, .dead, .dead, .dead], []⟩
def s_l8Or_h : Hint := (.seq .no (.seq .no (.seq (.seq .no (.block (.loop s_l8Or_s1 .no))) .no)))
def s_l8Or_m (N : Nat) (a : List Int) (b : List Int) : Option ((List Int)) :=
 (if room ([] : List Int).length a.length 8 then
 (iter (fun (go : ((List Int) × (List Int) × Int) → Option ((List Int))) (g : (List Int) × (List Int) × Int) =>
 match g with
 | (b2, out, i) =>
 (bif (decide (i < (b2.length : Int))) then
 (Option.bind (idx b2 i) fun (e : Int) =>
 (Option.bind (s_l8Put_m N out e) fun (r : (List Int)) =>
 (if fits (i + 1) then (go (b2, r, (i + 1))) else none)))
 else
 (some out))) N (b, (([] : List Int) ++ a), 0))
 else none)
def s_l8Or_M (N : Nat) : Model := ⟨s_l8Or_arg, s_l8Or_ret, fun a => s_l8Or_m N a.1 a.2⟩
set_option maxRecDepth 1000000 in
theorem s_l8Or_ok (N : Nat) : ModelOk Try.prog 54 (s_l8Or_M N) :=
  modelOk_of (E := mkEnv [(74, s_l8Put_M N)] [] []) (mkEnv_ok (fnsOk_cons (s_l8Put_ok N) fnsOk_nil) _ _) Try.func54 (by kernel_rfl) rfl N s_l8Or_h (s_l8Or_M N) (by kernel_rfl) (by kernel_rfl) (fun a => by kernel_rfl)
/-! loop.example/fossick/spec.l15Find -/
def s_l15Find_arg : Sh := ⟨[.pv (.sl (.pair (.pair (.int .i64) (.pair (.int .i64) (.int .i64))) (.pair (.int .i64) (.pair (.int .i64) (.pair (.int .i64) (.pair (.int .i64) (.int .i64))))))), .agg [.pv (.int .i64), .pv (.int .i64), .pv (.int .i64), .pv (.int .i64)]], []⟩
def s_l15Find_ret : Sh := ⟨[.tup [.pv (.sl (.int .i64)), .pv (.int .i64)]], []⟩
def s_l15Find_s1 : Sh := ⟨[.pv (.sl (.pair (.pair (.int .i64) (.pair (.int .i64) (.int .i64))) (.pair (.int .i64) (.pair (.int .i64) (.pair (.int .i64) (.pair (.int .i64) (.int .i64))))))), .dead, .dead, .box 3 0, .dead, .dead, .own 36 (.int .i64) 3 true, .dead, .dead, .dead, .dead, .dead, .dead, .dead, .dead, .dead, .dead, .dead, .dead, .dead, .dead, .dead, .dead, .dead, .dead, .dead, .dead, .dead, .dead, .dead, .dead, .dead, .dead, .dead, .dead, .dead, .dead, .dead, .dead, .dead, .dead, .dead, .dead, .dead, .dead, .dead, .dead, .dead, .dead, .dead, .dead, .dead, .dead, .dead, .dead, .dead, .dead, .dead, .dead, .dead, .dead, .dead, .dead, .dead, .dead, .dead, .dead, .dead, .dead, .dead], [(3, false, [.pv (.int .i64), .pv (.int .i64), .pv (.int .i64), .pv (.int .i64)])]⟩
def s_l15Find_h : Hint := (.seq .no (.seq .no (.seq .no (.meet s_l15Find_s1 .no .no))))
def s_l15Find_m (N : Nat) : (D : Nat) → (List ((Int × Int × Int) × Int × Int × Int × Int × Int)) → Int → Int → Int → Int → Option ((List Int) × Int)
 | 0, _, _, _, _, _ => none
 | D + 1, x, b, b2, b3, b4 =>
 (bif (decide ((x.length : Int) = 0)) then
 (some (([] : List Int), 0))
 else
 (Option.bind (idx x 0) fun (e : (Int × Int × Int) × Int × Int × Int × Int × Int) =>
 (Option.bind (s_l15Apart_m N e.2.2.1 e.2.2.2.1 e.2.2.2.2.1 e.2.2.2.2.2 b b2 b3 b4) fun (r : Bool) =>
 (bif r then
 (some (([] : List Int), 0))
 else
 (meet (fun (g : (List ((Int × Int × Int) × Int × Int × Int × Int × Int)) × (List Int) × Int × Int × Int × Int) =>
 match g with
 | (x2, out, b5, b6, b7, b8) =>
 (Option.bind (idx x2 0) fun (e4 : (Int × Int × Int) × Int × Int × Int × Int × Int) =>
 (if fits (1 + e4.2.1) then (Option.bind (cut x2 1 (1 + e4.2.1)) fun (y : List ((Int × Int × Int) × Int × Int × Int × Int × Int)) =>
 (Option.bind (s_l15Find_m N D y b5 b6 b7 b8) fun (r3 : (List Int) × Int) =>
 (Option.bind (idx x2 0) fun (e5 : (Int × Int × Int) × Int × Int × Int × Int × Int) =>
 (if fits (1 + e5.2.1) then (Option.bind (cut x2 (1 + e5.2.1) (x2.length : Int)) fun (y2 : List ((Int × Int × Int) × Int × Int × Int × Int × Int)) =>
 (Option.bind (s_l15Find_m N D y2 b5 b6 b7 b8) fun (r4 : (List Int) × Int) =>
 (Option.bind (s_l8Or_m N out r3.1) fun (r5 : (List Int)) =>
 (Option.bind (s_l8Or_m N r5 r4.1) fun (r6 : (List Int)) =>
 (if fits (r3.2 + r4.2) then (if fits ((r3.2 + r4.2) + 1) then (some (r6, ((r3.2 + r4.2) + 1))) else none) else none))))) else none)))) else none))) fun (J : ((List ((Int × Int × Int) × Int × Int × Int × Int × Int)) × (List Int) × Int × Int × Int × Int) → Option ((List Int) × Int)) =>
 (Option.bind (idx x 0) fun (e2 : (Int × Int × Int) × Int × Int × Int × Int × Int) =>
 (Option.bind (s_l15In_m N e2.1.1 e2.1.2.1 e2.1.2.2 b b2 b3 b4) fun (r2 : Bool) =>
 (bif r2 then
 (Option.bind (idx x 0) fun (e3 : (Int × Int × Int) × Int × Int × Int × Int × Int) =>
 (if room ([] : List Int).length ([e3.1.1] : List Int).length 8 then
 (J (x, (([] : List Int) ++ ([e3.1.1] : List Int)), b, b2, b3, b4))
 else none))
 else
 (J (x, ([] : List Int), b, b2, b3, b4))))))))))
def s_l15Find_M (N D : Nat) : Model := ⟨s_l15Find_arg, s_l15Find_ret, fun a => s_l15Find_m N D a.1 a.2.1 a.2.2.1 a.2.2.2.1 a.2.2.2.2⟩
set_option maxRecDepth 1000000 in
theorem s_l15Find_step (N D : Nat) (ih : ModelOk Try.prog 34 (s_l15Find_M N D)) : ModelOk Try.prog 34 (s_l15Find_M N (D + 1)) :=
  modelOk_of (E := mkEnv [(34, s_l15Find_M N D), (52, s_l15Apart_M N), (53, s_l15In_M N), (54, s_l8Or_M N)] [] []) (mkEnv_ok (fnsOk_cons ih (fnsOk_cons (s_l15Apart_ok N) (fnsOk_cons (s_l15In_ok N) (fnsOk_cons (s_l8Or_ok N) fnsOk_nil)))) _ _) Try.func34 (by kernel_rfl) rfl N s_l15Find_h (s_l15Find_M N (D + 1)) (by kernel_rfl) (by kernel_rfl) (fun a => by kernel_rfl)
theorem s_l15Find_ok (N : Nat) : ∀ D, ModelOk Try.prog 34 (s_l15Find_M N D)
  | 0 => modelOk_none ⟨_, Try.func34, by decide, by kernel_rfl⟩ _ (fun a => rfl)
  | D + 1 => s_l15Find_step N D (s_l15Find_ok N D)
/-! loop.example/fossick/spec.KnotsFind -/
def s_KnotsFind_arg : Sh := ⟨[.pv (.sl (.pair (.pair (.int .i64) (.pair (.int .i64) (.int .i64))) (.pair (.int .i64) (.pair (.int .i64) (.pair (.int .i64) (.pair (.int .i64) (.int .i64))))))), .agg [.pv (.int .i64), .pv (.int .i64), .pv (.int .i64), .pv (.int .i64)]], []⟩
def s_KnotsFind_ret : Sh := ⟨[.tup [.pv (.sl (.int .i64)), .pv (.int .i64)]], []⟩
def s_KnotsFind_h : Hint := .no
def s_KnotsFind_m (N : Nat) (x : List ((Int × Int × Int) × Int × Int × Int × Int × Int)) (b : Int) (b2 : Int) (b3 : Int) (b4 : Int) : Option ((List Int) × Int) :=
 (Option.bind (s_l15Ok_m N x) fun (r : Bool) =>
 (bif (!r) then
 (some (([] : List Int), (-1)))
 else
 (Option.bind (s_l15BoxOk_m N b b2 b3 b4) fun (r2 : Bool) =>
 (bif (!r2) then
 (some (([] : List Int), (-1)))
 else
 (Option.bind (s_l15Find_m N N x b b2 b3 b4) fun (r3 : (List Int) × Int) =>
 (some (r3.1, r3.2)))))))
def s_KnotsFind_M (N : Nat) : Model := ⟨s_KnotsFind_arg, s_KnotsFind_ret, fun a => s_KnotsFind_m N a.1 a.2.1 a.2.2.1 a.2.2.2.1 a.2.2.2.2⟩
set_option maxRecDepth 1000000 in
theorem s_KnotsFind_ok (N : Nat) : ModelOk Try.prog 8 (s_KnotsFind_M N) :=
  modelOk_of (E := mkEnv [(32, s_l15Ok_M N), (33, s_l15BoxOk_M N), (34, s_l15Find_M N N)] [] []) (mkEnv_ok (fnsOk_cons (s_l15Ok_ok N) (fnsOk_cons (s_l15BoxOk_ok N) (fnsOk_cons (s_l15Find_ok N N) fnsOk_nil))) _ _) Try.func8 (by kernel_rfl) rfl N s_KnotsFind_h (s_KnotsFind_M N) (by kernel_rfl) (by kernel_rfl) (fun a => by kernel_rfl)
/-! loop.example/fossick/laws.foInts -/
def l_foInts_arg : Sh := ⟨[.pv (.sl (.int .i64)), .pv (.sl (.int .i64))], []⟩
def l_foInts_ret : Sh := ⟨[.pv .bool], []⟩
def l_foInts_s1 : Sh := ⟨[.pv (.sl (.int .i64)), .pv (.sl (.int .i64)), .dead, .dead, .dead, .pv (.int .i64), .dead, .dead, .dead, .dead, .dead, .dead, .dead, .dead, .dead, .dead, .dead, .dead, .dead, .dead, .dead, .dead, .dead, .dead, .dead, .dead], []⟩
def l_foInts_h : Hint := (.seq .no (.seq .no (.seq (.seq .no (.block (.loop l_foInts_s1 .no))) .no)))
def l_foInts_m (N : Nat) (a : List Int) (b : List Int) : Option (Bool) :=
 (bif (!decide ((a.length : Int) = (b.length : Int))) then
 (some false)
 else
 (iter (fun (go : ((List Int) × (List Int) × Int) → Option Bool) (g : (List Int) × (List Int) × Int) =>
 match g with
 | (a2, b2, i) =>
 (bif (decide (i < (a2.length : Int))) then
 (Option.bind (idx a2 i) fun (e : Int) =>
 (Option.bind (idx b2 i) fun (e2 : Int) =>
 (bif (!decide (e = e2)) then
 (some false)
 else
 (if fits (i + 1) then (go (a2, b2, (i + 1))) else none))))
 else
 (some true))) N (a, b, 0)))
def l_foInts_M (N : Nat) : Model := ⟨l_foInts_arg, l_foInts_ret, fun a => l_foInts_m N a.1 a.2⟩
set_option maxRecDepth 1000000 in
theorem l_foInts_ok (N : Nat) : ModelOk Try.prog 9 (l_foInts_M N) :=
  modelOk_of (E := mkEnv [] [] []) (mkEnv_ok fnsOk_nil _ _) Try.func9 (by kernel_rfl) rfl N l_foInts_h (l_foInts_M N) (by kernel_rfl) (by kernel_rfl) (fun a => by kernel_rfl)
/-! loop.example/fossick/spec.KnotsOk -/
def s_KnotsOk_arg : Sh := ⟨[.pv (.sl (.pair (.pair (.int .i64) (.pair (.int .i64) (.int .i64))) (.pair (.int .i64) (.pair (.int .i64) (.pair (.int .i64) (.pair (.int .i64) (.int .i64)))))))], []⟩
def s_KnotsOk_ret : Sh := ⟨[.pv .bool], []⟩
def s_KnotsOk_h : Hint := .no
def s_KnotsOk_m (N : Nat) (x : List ((Int × Int × Int) × Int × Int × Int × Int × Int)) : Option (Bool) :=
 (Option.bind (s_l15Ok_m N x) fun (r : Bool) =>
 (some r))
def s_KnotsOk_M (N : Nat) : Model := ⟨s_KnotsOk_arg, s_KnotsOk_ret, fun a => s_KnotsOk_m N a⟩
set_option maxRecDepth 1000000 in
theorem s_KnotsOk_ok (N : Nat) : ModelOk Try.prog 11 (s_KnotsOk_M N) :=
  modelOk_of (E := mkEnv [(32, s_l15Ok_M N)] [] []) (mkEnv_ok (fnsOk_cons (s_l15Ok_ok N) fnsOk_nil) _ _) Try.func11 (by kernel_rfl) rfl N s_KnotsOk_h (s_KnotsOk_M N) (by kernel_rfl) (by kernel_rfl) (fun a => by kernel_rfl)
/-! loop.example/fossick/spec.BoxOk -/
def s_BoxOk_arg : Sh := ⟨[.agg [.pv (.int .i64), .pv (.int .i64), .pv (.int .i64), .pv (.int .i64)]], []⟩
def s_BoxOk_ret : Sh := ⟨[.pv .bool], []⟩
def s_BoxOk_h : Hint := .no
def s_BoxOk_m (N : Nat) (b : Int) (b2 : Int) (b3 : Int) (b4 : Int) : Option (Bool) :=
 (Option.bind (s_l15BoxOk_m N b b2 b3 b4) fun (r : Bool) =>
 (some r))
def s_BoxOk_M (N : Nat) : Model := ⟨s_BoxOk_arg, s_BoxOk_ret, fun a => s_BoxOk_m N a.1 a.2.1 a.2.2.1 a.2.2.2⟩
set_option maxRecDepth 1000000 in
theorem s_BoxOk_ok (N : Nat) : ModelOk Try.prog 13 (s_BoxOk_M N) :=
  modelOk_of (E := mkEnv [(33, s_l15BoxOk_M N)] [] []) (mkEnv_ok (fnsOk_cons (s_l15BoxOk_ok N) fnsOk_nil) _ _) Try.func13 (by kernel_rfl) rfl N s_BoxOk_h (s_BoxOk_M N) (by kernel_rfl) (by kernel_rfl) (fun a => by kernel_rfl)
/-! loop.example/fossick/laws.foInBox -/
def l_foInBox_arg : Sh := ⟨[.agg [.pv (.int .i64), .pv (.int .i64), .pv (.int .i64)], .agg [.pv (.int .i64), .pv (.int .i64), .pv (.int .i64), .pv (.int .i64)]], []⟩
def l_foInBox_ret : Sh := ⟨[.pv .bool], []⟩
def l_foInBox_h : Hint := .no
def l_foInBox_m (N : Nat) (p : Int) (p2 : Int) (p3 : Int) (b : Int) (b2 : Int) (b3 : Int) (b4 : Int) : Option (Bool) :=
 (bif (decide (b ≤ p2)) then
 (bif (decide (p2 ≤ b2)) then
 (bif (decide (b3 ≤ p3)) then
 (some (decide (p3 ≤ b4)))
 else
 (some false))
 else
 (some false))
 else
 (some false))
def l_foInBox_M (N : Nat) : Model := ⟨l_foInBox_arg, l_foInBox_ret, fun a => l_foInBox_m N a.1 a.2.1 a.2.2.1 a.2.2.2.1 a.2.2.2.2.1 a.2.2.2.2.2.1 a.2.2.2.2.2.2⟩
set_option maxRecDepth 1000000 in
theorem l_foInBox_ok (N : Nat) : ModelOk Try.prog 14 (l_foInBox_M N) :=
  modelOk_of (E := mkEnv [] [] []) (mkEnv_ok fnsOk_nil _ _) Try.func14 (by kernel_rfl) rfl N l_foInBox_h (l_foInBox_M N) (by kernel_rfl) (by kernel_rfl) (fun a => by kernel_rfl)
/-! loop.example/fossick/laws.foIn -/
def l_foIn_arg : Sh := ⟨[.pv (.sl (.int .i64)), .pv (.int .i64)], []⟩
def l_foIn_ret : Sh := ⟨[.pv .bool], []⟩
def l_foIn_s1 : Sh := ⟨[.pv (.sl (.int .i64)), .pv (.int .i64), .dead, .dead, .dead, .pv (.int .i64), .dead, .dead, .dead, .dead, .dead, .dead, .dead, .dead, .dead, .dead, .dead, .dead], []⟩
def l_foIn_h : Hint := (.seq .no (.seq (.seq .no (.block (.loop l_foIn_s1 .no))) .no))
def l_foIn_m (N : Nat) (list : List Int) (n : Int) : Option (Bool) :=
 (iter (fun (go : ((List Int) × Int × Int) → Option Bool) (g : (List Int) × Int × Int) =>
 match g with
 | (list2, n2, i) =>
 (bif (decide (i < (list2.length : Int))) then
 (Option.bind (idx list2 i) fun (e : Int) =>
 (bif (decide (e = n2)) then
 (some true)
 else
 (if fits (i + 1) then (go (list2, n2, (i + 1))) else none)))
 else
 (some false))) N (list, n, 0))
def l_foIn_M (N : Nat) : Model := ⟨l_foIn_arg, l_foIn_ret, fun a => l_foIn_m N a.1 a.2⟩
set_option maxRecDepth 1000000 in
theorem l_foIn_ok (N : Nat) : ModelOk Try.prog 15 (l_foIn_M N) :=
  modelOk_of (E := mkEnv [] [] []) (mkEnv_ok fnsOk_nil _ _) Try.func15 (by kernel_rfl) rfl N l_foIn_h (l_foIn_M N) (by kernel_rfl) (by kernel_rfl) (fun a => by kernel_rfl)
/-! loop.example/fossick/impl.UpOk -/
def i_UpOk_arg : Sh := ⟨[.pv (.sl (.int .i64))], []⟩
def i_UpOk_ret : Sh := ⟨[.pv .bool], []⟩
def i_UpOk_s1 : Sh := ⟨[.pv (.sl (.int .i64)), .dead, .dead, .dead, .dead, .pv (.sl (.int .i64)), .pv (.int .i64), .pv (.int .i64), .dead, .dead, .dead, .dead, .dead, .dead, .dead, .dead, .dead, .dead, .dead, .dead, .dead, .dead, .dead, .dead, .dead, .dead, .dead, .dead, .dead, .dead, .dead, .dead], []⟩
def i_UpOk_h : Hint := (.seq .no (.seq (.seq .no (.block (.loop i_UpOk_s1 .no))) .no))
def i_UpOk_m (N : Nat) (list : List Int) : Option (Bool) :=
 (iter (fun (go : ((List Int) × (List Int) × Int × Int) → Option Bool) (g : (List Int) × (List Int) × Int × Int) =>
 match g with
 | (list2, t5, t6, t7) =>
 (bif (decide (t7 < t6)) then
 (Option.bind (idx t5 t7) fun (e : Int) =>
 (Option.bind (i_within_m N e 0 999999999) fun (r : Bool) =>
 (bif (!r) then
 (some false)
 else
 (bif (decide ((0 : Int) < t7)) then
 (if fits (t7 - 1) then (Option.bind (idx list2 (t7 - 1)) fun (e2 : Int) =>
 (bif (decide (e ≤ e2)) then
 (some false)
 else
 (if fits (t7 + 1) then (go (list2, t5, t6, (t7 + 1))) else none))) else none)
 else
 (if fits (t7 + 1) then (go (list2, t5, t6, (t7 + 1))) else none)))))
 else
 (some (decide ((list2.length : Int) ≤ 60))))) N (list, list, (list.length : Int), 0))
def i_UpOk_M (N : Nat) : Model := ⟨i_UpOk_arg, i_UpOk_ret, fun a => i_UpOk_m N a⟩
set_option maxRecDepth 1000000 in
theorem i_UpOk_ok (N : Nat) : ModelOk Try.prog 16 (i_UpOk_M N) :=
  modelOk_of (E := mkEnv [(38, i_within_M N)] [] []) (mkEnv_ok (fnsOk_cons (i_within_ok N) fnsOk_nil) _ _) Try.func16 (by kernel_rfl) rfl N i_UpOk_h (i_UpOk_M N) (by kernel_rfl) (by kernel_rfl) (fun a => by kernel_rfl)
/-! loop.example/fossick/laws.FnKnotsFind -/
def l_FnKnotsFind_arg : Sh := ⟨[.pv (.sl (.int .u8))], []⟩
def l_FnKnotsFind_ret : Sh := ⟨[.pv .bool], []⟩
def l_FnKnotsFind_s1 : Sh := ⟨[.dead, .dead, .dead, .own 600003 (.pair (.pair (.int .i64) (.pair (.int .i64) (.int .i64))) (.pair (.int .i64) (.pair (.int .i64) (.pair (.int .i64) (.pair (.int .i64) (.int .i64)))))) 38 true, .box 4 0, .own 600005 (.int .i64) 3 true, .pv (.int .i64), .dead, .dead, .pv (.int .i64), .pv (.int .i64), .dead, .dead, .dead, .dead, .dead, .dead, .dead, .dead, .dead, .dead, .dead, .dead, .dead, .dead, .dead, .dead, .dead, .dead, .dead, .dead, .dead, .dead, .dead, .dead, .dead, .dead, .dead, .dead, .dead, .dead, .dead, .dead, .dead, .dead, .dead, .dead, .dead, .dead, .dead, .dead, .dead, .dead, .dead, .dead, .dead, .dead, .dead, .dead, .dead, .dead, .dead, .dead, .dead, .dead, .dead, .dead, .dead, .dead, .dead, .dead, .dead, .dead, .dead, .dead, .dead, .dead, .dead, .dead, .dead, .dead, .dead, .dead, .dead, .dead, .dead, .dead, .dead, .dead, .dead, .dead, .dead, .dead, .dead, .dead, .dead, .dead, .dead, .dead, .dead, .dead, .dead, .dead, .dead, .dead, .dead, .dead, .dead, .dead, .dead, .dead, .dead, .dead, .dead, .dead, .dead, .dead, .dead, .dead, .dead, .dead, .dead, .dead], [(4, false, [.pv (.int .i64), .pv (.int .i64), .pv (.int .i64), .pv (.int .i64)])]⟩
def l_FnKnotsFind_h : Hint := (.seq .no (.seq .no (.seq .no (.seq .no (.seq .no (.seq .no (.seq .no (.seq (.seq .no (.block (.loop l_FnKnotsFind_s1 .no))) .no))))))))
def l_FnKnotsFind_m (N : Nat) (code : List Int) : Option (Bool) :=
 (bif (decide ((1048576 : Int) < (code.length : Int))) then
 (some true)
 else
 (Option.bind (s_DrawKnotsFind_m N code) fun (r : (List ((Int × Int × Int) × Int × Int × Int × Int × Int)) × Int × Int × Int × Int) =>
 (Option.bind (i_KnotsFind_m N r.1 r.2.1 r.2.2.1 r.2.2.2.1 r.2.2.2.2) fun (r2 : (List Int) × Int) =>
 (Option.bind (s_KnotsFind_m N r.1 r.2.1 r.2.2.1 r.2.2.2.1 r.2.2.2.2) fun (r3 : (List Int) × Int) =>
 (bif (!decide (r2.2 = r3.2)) then
 (bif (decide (r2.2 = r3.2)) then
 (Option.bind (l_foInts_m N r2.1 r3.1) fun (r4 : Bool) =>
 (bif r4 then
 (Option.bind (i_KnotsOk_m N r.1) fun (r5 : Bool) =>
 (Option.bind (s_KnotsOk_m N r.1) fun (r6 : Bool) =>
 (bif (r5 == r6) then
 (Option.bind (i_BoxOk_m N r.2.1 r.2.2.1 r.2.2.2.1 r.2.2.2.2) fun (r7 : Bool) =>
 (Option.bind (s_BoxOk_m N r.2.1 r.2.2.1 r.2.2.2.1 r.2.2.2.2) fun (r8 : Bool) =>
 (some (r7 == r8))))
 else
 (some false))))
 else
 (some false)))
 else
 (some false))
 else
 (Option.bind (l_foInts_m N r2.1 r3.1) fun (r9 : Bool) =>
 (bif (!r9) then
 (bif (decide (r2.2 = r3.2)) then
 (Option.bind (l_foInts_m N r2.1 r3.1) fun (r10 : Bool) =>
 (bif r10 then
 (Option.bind (i_KnotsOk_m N r.1) fun (r11 : Bool) =>
 (Option.bind (s_KnotsOk_m N r.1) fun (r12 : Bool) =>
 (bif (r11 == r12) then
 (Option.bind (i_BoxOk_m N r.2.1 r.2.2.1 r.2.2.2.1 r.2.2.2.2) fun (r13 : Bool) =>
 (Option.bind (s_BoxOk_m N r.2.1 r.2.2.1 r.2.2.2.1 r.2.2.2.2) fun (r14 : Bool) =>
 (some (r13 == r14))))
 else
 (some false))))
 else
 (some false)))
 else
 (some false))
 else
 (Option.bind (i_KnotsOk_m N r.1) fun (r15 : Bool) =>
 (Option.bind (s_KnotsOk_m N r.1) fun (r16 : Bool) =>
 (bif (!(r15 == r16)) then
 (bif (decide (r2.2 = r3.2)) then
 (Option.bind (l_foInts_m N r2.1 r3.1) fun (r17 : Bool) =>
 (bif r17 then
 (Option.bind (i_KnotsOk_m N r.1) fun (r18 : Bool) =>
 (Option.bind (s_KnotsOk_m N r.1) fun (r19 : Bool) =>
 (bif (r18 == r19) then
 (Option.bind (i_BoxOk_m N r.2.1 r.2.2.1 r.2.2.2.1 r.2.2.2.2) fun (r20 : Bool) =>
 (Option.bind (s_BoxOk_m N r.2.1 r.2.2.1 r.2.2.2.1 r.2.2.2.2) fun (r21 : Bool) =>
 (some (r20 == r21))))
 else
 (some false))))
 else
 (some false)))
 else
 (some false))
 else
 (Option.bind (i_BoxOk_m N r.2.1 r.2.2.1 r.2.2.2.1 r.2.2.2.2) fun (r22 : Bool) =>
 (Option.bind (s_BoxOk_m N r.2.1 r.2.2.1 r.2.2.2.1 r.2.2.2.2) fun (r23 : Bool) =>
 (bif (!(r22 == r23)) then
 (bif (decide (r2.2 = r3.2)) then
 (Option.bind (l_foInts_m N r2.1 r3.1) fun (r24 : Bool) =>
 (bif r24 then
 (Option.bind (i_KnotsOk_m N r.1) fun (r25 : Bool) =>
 (Option.bind (s_KnotsOk_m N r.1) fun (r26 : Bool) =>
 (bif (r25 == r26) then
 (Option.bind (i_BoxOk_m N r.2.1 r.2.2.1 r.2.2.2.1 r.2.2.2.2) fun (r27 : Bool) =>
 (Option.bind (s_BoxOk_m N r.2.1 r.2.2.1 r.2.2.2.1 r.2.2.2.2) fun (r28 : Bool) =>
 (some (r27 == r28))))
 else
 (some false))))
 else
 (some false)))
 else
 (some false))
 else
 (bif (decide (r2.2 < 0)) then
 (bif (decide (r2.2 = r3.2)) then
 (Option.bind (l_foInts_m N r2.1 r3.1) fun (r29 : Bool) =>
 (bif r29 then
 (Option.bind (i_KnotsOk_m N r.1) fun (r30 : Bool) =>
 (Option.bind (s_KnotsOk_m N r.1) fun (r31 : Bool) =>
 (bif (r30 == r31) then
 (Option.bind (i_BoxOk_m N r.2.1 r.2.2.1 r.2.2.2.1 r.2.2.2.2) fun (r32 : Bool) =>
 (Option.bind (s_BoxOk_m N r.2.1 r.2.2.1 r.2.2.2.1 r.2.2.2.2) fun (r33 : Bool) =>
 (some (r32 == r33))))
 else
 (some false))))
 else
 (some false)))
 else
 (some false))
 else
 (iter (fun (go : ((List ((Int × Int × Int) × Int × Int × Int × Int × Int)) × (List Int) × Int × Int × Int × Int × Int × Int × Int) → Option Bool) (g : (List ((Int × Int × Int) × Int × Int × Int × Int × Int)) × (List Int) × Int × Int × Int × Int × Int × Int × Int) =>
 match g with
 | (x, list, looks, n, i, b, b2, b3, b4) =>
 (bif (decide (i < (x.length : Int))) then
 (Option.bind (idx x i) fun (e : (Int × Int × Int) × Int × Int × Int × Int × Int) =>
 (Option.bind (l_foInBox_m N e.1.1 e.1.2.1 e.1.2.2 b b2 b3 b4) fun (r34 : Bool) =>
 (bif r34 then
 (if fits (n + 1) then (Option.bind (idx x i) fun (e2 : (Int × Int × Int) × Int × Int × Int × Int × Int) =>
 (Option.bind (l_foIn_m N list e2.1.1) fun (r35 : Bool) =>
 (bif (!r35) then
 (some false)
 else
 (if fits (i + 1) then (go (x, list, looks, (n + 1), (i + 1), b, b2, b3, b4)) else none)))) else none)
 else
 (if fits (i + 1) then (go (x, list, looks, n, (i + 1), b, b2, b3, b4)) else none))))
 else
 (Option.bind (i_UpOk_m N list) fun (r36 : Bool) =>
 (bif r36 then
 (bif (decide (n = (list.length : Int))) then
 (bif (decide (n ≤ looks)) then
 (some (decide (looks ≤ (x.length : Int))))
 else
 (some false))
 else
 (some false))
 else
 (some false))))) N (r.1, r2.1, r2.2, 0, 0, r.2.1, r.2.2.1, r.2.2.2.1, r.2.2.2.2))))))))))))))))
def l_FnKnotsFind_M (N : Nat) : Model := ⟨l_FnKnotsFind_arg, l_FnKnotsFind_ret, fun a => l_FnKnotsFind_m N a⟩
set_option maxRecDepth 1000000 in
theorem l_FnKnotsFind_ok (N : Nat) : ModelOk Try.prog 3 (l_FnKnotsFind_M N) :=
  modelOk_of (E := mkEnv [(6, s_DrawKnotsFind_M N), (7, i_KnotsFind_M N), (8, s_KnotsFind_M N), (9, l_foInts_M N), (10, i_KnotsOk_M N), (11, s_KnotsOk_M N), (12, i_BoxOk_M N), (13, s_BoxOk_M N), (14, l_foInBox_M N), (15, l_foIn_M N), (16, i_UpOk_M N)] [] []) (mkEnv_ok (fnsOk_cons (s_DrawKnotsFind_ok N) (fnsOk_cons (i_KnotsFind_ok N) (fnsOk_cons (s_KnotsFind_ok N) (fnsOk_cons (l_foInts_ok N) (fnsOk_cons (i_KnotsOk_ok N) (fnsOk_cons (s_KnotsOk_ok N) (fnsOk_cons (i_BoxOk_ok N) (fnsOk_cons (s_BoxOk_ok N) (fnsOk_cons (l_foInBox_ok N) (fnsOk_cons (l_foIn_ok N) (fnsOk_cons (i_UpOk_ok N) fnsOk_nil))))))))))) _ _) Try.func3 (by kernel_rfl) rfl N l_FnKnotsFind_h (l_FnKnotsFind_M N) (by kernel_rfl) (by kernel_rfl) (fun a => by kernel_rfl)
/-! loop.example/fossick/laws.szKnotS -/
def l_szKnotS_arg : Sh := ⟨[.pv (.sl (.pair (.pair (.int .i64) (.pair (.int .i64) (.int .i64))) (.pair (.int .i64) (.pair (.int .i64) (.pair (.int .i64) (.pair (.int .i64) (.int .i64))))))), .pv (.int .i64)], []⟩
def l_szKnotS_ret : Sh := ⟨[.pv (.int .i64)], []⟩
def l_szKnotS_h : Hint := .no
def l_szKnotS_m (N : Nat) (a : List ((Int × Int × Int) × Int × Int × Int × Int × Int)) (left : Int) : Option (Int) :=
 (if fits (left - (a.length : Int)) then (bif (decide ((left - (a.length : Int)) < 0)) then
 (some (-1))
 else
 (some (left - (a.length : Int)))) else none)
def l_szKnotS_M (N : Nat) : Model := ⟨l_szKnotS_arg, l_szKnotS_ret, fun a => l_szKnotS_m N a.1 a.2⟩
set_option maxRecDepth 1000000 in
theorem l_szKnotS_ok (N : Nat) : ModelOk Try.prog 17 (l_szKnotS_M N) :=
  modelOk_of (E := mkEnv [] [] []) (mkEnv_ok fnsOk_nil _ _) Try.func17 (by kernel_rfl) rfl N l_szKnotS_h (l_szKnotS_M N) (by kernel_rfl) (by kernel_rfl) (fun a => by kernel_rfl)
/-! loop.example/fossick/laws.toPoint -/
def l_toPoint_arg : Sh := ⟨[.agg [.pv (.int .i64), .pv (.int .i64), .pv (.int .i64)]], []⟩
def l_toPoint_ret : Sh := ⟨[.agg [.pv (.int .i64), .pv (.int .i64), .pv (.int .i64)]], []⟩
def l_toPoint_h : Hint := .no
def l_toPoint_m (N : Nat) (a : Int) (a2 : Int) (a3 : Int) : Option (Int × Int × Int) :=
 (some (a, a2, a3))
def l_toPoint_M (N : Nat) : Model := ⟨l_toPoint_arg, l_toPoint_ret, fun a => l_toPoint_m N a.1 a.2.1 a.2.2⟩
set_option maxRecDepth 1000000 in
theorem l_toPoint_ok (N : Nat) : ModelOk Try.prog 56 (l_toPoint_M N) :=
  modelOk_of (E := mkEnv [] [] []) (mkEnv_ok fnsOk_nil _ _) Try.func56 (by kernel_rfl) rfl N l_toPoint_h (l_toPoint_M N) (by kernel_rfl) (by kernel_rfl) (fun a => by kernel_rfl)
/-! loop.example/fossick/laws.toBox -/
def l_toBox_arg : Sh := ⟨[.agg [.pv (.int .i64), .pv (.int .i64), .pv (.int .i64), .pv (.int .i64)]], []⟩
def l_toBox_ret : Sh := ⟨[.agg [.pv (.int .i64), .pv (.int .i64), .pv (.int .i64), .pv (.int .i64)]], []⟩
def l_toBox_h : Hint := .no
def l_toBox_m (N : Nat) (a : Int) (a2 : Int) (a3 : Int) (a4 : Int) : Option (Int × Int × Int × Int) :=
 (some (a, a2, a3, a4))
def l_toBox_M (N : Nat) : Model := ⟨l_toBox_arg, l_toBox_ret, fun a => l_toBox_m N a.1 a.2.1 a.2.2.1 a.2.2.2⟩
set_option maxRecDepth 1000000 in
theorem l_toBox_ok (N : Nat) : ModelOk Try.prog 19 (l_toBox_M N) :=
  modelOk_of (E := mkEnv [] [] []) (mkEnv_ok fnsOk_nil _ _) Try.func19 (by kernel_rfl) rfl N l_toBox_h (l_toBox_M N) (by kernel_rfl) (by kernel_rfl) (fun a => by kernel_rfl)
/-! loop.example/fossick/laws.toKnot -/
def l_toKnot_arg : Sh := ⟨[.agg [.pv (.int .i64), .pv (.int .i64), .pv (.int .i64), .pv (.int .i64), .pv (.int .i64), .pv (.int .i64), .pv (.int .i64), .pv (.int .i64)]], []⟩
def l_toKnot_ret : Sh := ⟨[.agg [.pv (.int .i64), .pv (.int .i64), .pv (.int .i64), .pv (.int .i64), .pv (.int .i64), .pv (.int .i64), .pv (.int .i64), .pv (.int .i64)]], []⟩
def l_toKnot_h : Hint := .no
def l_toKnot_m (N : Nat) (a : Int) (a2 : Int) (a3 : Int) (a4 : Int) (a5 : Int) (a6 : Int) (a7 : Int) (a8 : Int) : Option (Int × Int × Int × Int × Int × Int × Int × Int) :=
 (Option.bind (l_toPoint_m N a a2 a3) fun (r : Int × Int × Int) =>
 (Option.bind (l_toBox_m N a5 a6 a7 a8) fun (r2 : Int × Int × Int × Int) =>
 (some (r.1, r.2.1, r.2.2, a4, r2.1, r2.2.1, r2.2.2.1, r2.2.2.2))))
def l_toKnot_M (N : Nat) : Model := ⟨l_toKnot_arg, l_toKnot_ret, fun a => l_toKnot_m N a.1 a.2.1 a.2.2.1 a.2.2.2.1 a.2.2.2.2.1 a.2.2.2.2.2.1 a.2.2.2.2.2.2.1 a.2.2.2.2.2.2.2⟩
set_option maxRecDepth 1000000 in
theorem l_toKnot_ok (N : Nat) : ModelOk Try.prog 39 (l_toKnot_M N) :=
  modelOk_of (E := mkEnv [(56, l_toPoint_M N), (19, l_toBox_M N)] [] [] [6, 13]) (mkEnv_ok (fnsOk_cons (l_toPoint_ok N) (fnsOk_cons (l_toBox_ok N) fnsOk_nil)) _ _ _) Try.func39 (by kernel_rfl) rfl N l_toKnot_h (l_toKnot_M N) (by kernel_rfl) (by kernel_rfl) (fun a => by kernel_rfl)
/-! loop.example/fossick/laws.toKnotS -/
def l_toKnotS_arg : Sh := ⟨[.pv (.sl (.pair (.pair (.int .i64) (.pair (.int .i64) (.int .i64))) (.pair (.int .i64) (.pair (.int .i64) (.pair (.int .i64) (.pair (.int .i64) (.int .i64)))))))], []⟩
def l_toKnotS_ret : Sh := ⟨[.own 1 (.pair (.pair (.int .i64) (.pair (.int .i64) (.int .i64))) (.pair (.int .i64) (.pair (.int .i64) (.pair (.int .i64) (.pair (.int .i64) (.int .i64)))))) 38 true], []⟩
def l_toKnotS_s1 : Sh := ⟨[.pv (.sl (.pair (.pair (.int .i64) (.pair (.int .i64) (.int .i64))) (.pair (.int .i64) (.pair (.int .i64) (.pair (.int .i64) (.pair (.int .i64) (.int .i64))))))), .dead, .dead, .mtk 600003 (.pair (.pair (.int .i64) (.pair (.int .i64) (.int .i64))) (.pair (.int .i64) (.pair (.int .i64) (.pair (.int .i64) (.pair (.int .i64) (.int .i64)))))) 38 true, .pv (.int .i64), .dead, .dead, .dead, .dead, .dead, .dead, .dead, .dead, .dead, .dead, .dead, .dead, .dead, .dead, .dead, .dead, .dead, .dead], []⟩
def l_toKnotS_h : Hint := (.seq .no (.seq .no (.seq (.seq .no (.block (.loop l_toKnotS_s1 .no))) .no)))
def l_toKnotS_m (N : Nat) (a : List ((Int × Int × Int) × Int × Int × Int × Int × Int)) : Option ((List ((Int × Int × Int) × Int × Int × Int × Int × Int))) :=
 (if (a.length : Int) = (a.length : Int) ∧ 0 ≤ (a.length : Int) ∧ (a.length : Int) * 64 ≤ 140737488355328 ∧ (a.length : Int) ≤ 140737488355328 then
 (iter (fun (go : ((List ((Int × Int × Int) × Int × Int × Int × Int × Int)) × (List ((Int × Int × Int) × Int × Int × Int × Int × Int)) × Int) → Option ((List ((Int × Int × Int) × Int × Int × Int × Int × Int)))) (g : (List ((Int × Int × Int) × Int × Int × Int × Int × Int)) × (List ((Int × Int × Int) × Int × Int × Int × Int × Int)) × Int) =>
 match g with
 | (a2, out, i) =>
 (bif (decide (i < (a2.length : Int))) then
 (Option.bind (idx a2 i) fun (e : (Int × Int × Int) × Int × Int × Int × Int × Int) =>
 (Option.bind (l_toKnot_m N e.1.1 e.1.2.1 e.1.2.2 e.2.1 e.2.2.1 e.2.2.2.1 e.2.2.2.2.1 e.2.2.2.2.2) fun (r : Int × Int × Int × Int × Int × Int × Int × Int) =>
 (if 0 ≤ i ∧ i < (out.length : Int) then
 (Option.bind (out[i.toNat]?) fun (e2 : (Int × Int × Int) × Int × Int × Int × Int × Int) =>
 (if fits (i + 1) then (go (a2, (out.set i.toNat ((r.1, r.2.1, r.2.2.1), r.2.2.2)), (i + 1))) else none))
 else none)))
 else
 (some out))) N (a, (List.replicate (a.length : Int).toNat ((0, 0, 0), 0, 0, 0, 0, 0)), 0))
 else none)
def l_toKnotS_M (N : Nat) : Model := ⟨l_toKnotS_arg, l_toKnotS_ret, fun a => l_toKnotS_m N a⟩
set_option maxRecDepth 1000000 in
theorem l_toKnotS_ok (N : Nat) : ModelOk Try.prog 18 (l_toKnotS_M N) :=
  modelOk_of (E := mkEnv [(39, l_toKnot_M N)] [7] [] [20]) (mkEnv_ok (fnsOk_cons (l_toKnot_ok N) fnsOk_nil) _ _ _) Try.func18 (by kernel_rfl) rfl N l_toKnotS_h (l_toKnotS_M N) (by kernel_rfl) (by kernel_rfl) (fun a => by kernel_rfl)
/-! loop.example/fossick/laws.eqIntS -/
def l_eqIntS_arg : Sh := ⟨[.pv (.sl (.int .i64)), .pv (.sl (.int .i64))], []⟩
def l_eqIntS_ret : Sh := ⟨[.pv .bool], []⟩
def l_eqIntS_s1 : Sh := ⟨[.pv (.sl (.int .i64)), .pv (.sl (.int .i64)), .dead, .dead, .dead, .pv (.int .i64), .dead, .dead, .dead, .dead, .dead, .dead, .dead, .dead, .dead, .dead, .dead, .dead, .dead, .dead, .dead, .dead, .dead, .dead, .dead, .dead], []⟩
def l_eqIntS_h : Hint := (.seq .no (.seq .no (.seq (.seq .no (.block (.loop l_eqIntS_s1 .no))) .no)))
def l_eqIntS_m (N : Nat) (a : List Int) (b : List Int) : Option (Bool) :=
 (bif (!decide ((a.length : Int) = (b.length : Int))) then
 (some false)
 else
 (iter (fun (go : ((List Int) × (List Int) × Int) → Option Bool) (g : (List Int) × (List Int) × Int) =>
 match g with
 | (a2, b2, i) =>
 (bif (decide (i < (a2.length : Int))) then
 (Option.bind (idx a2 i) fun (e : Int) =>
 (Option.bind (idx b2 i) fun (e2 : Int) =>
 (bif (!decide (e = e2)) then
 (some false)
 else
 (if fits (i + 1) then (go (a2, b2, (i + 1))) else none))))
 else
 (some true))) N (a, b, 0)))
def l_eqIntS_M (N : Nat) : Model := ⟨l_eqIntS_arg, l_eqIntS_ret, fun a => l_eqIntS_m N a.1 a.2⟩
set_option maxRecDepth 1000000 in
theorem l_eqIntS_ok (N : Nat) : ModelOk Try.prog 20 (l_eqIntS_M N) :=
  modelOk_of (E := mkEnv [] [] []) (mkEnv_ok fnsOk_nil _ _) Try.func20 (by kernel_rfl) rfl N l_eqIntS_h (l_eqIntS_M N) (by kernel_rfl) (by kernel_rfl) (fun a => by kernel_rfl)
/-! loop.example/fossick/laws.eqPoint -/
def l_eqPoint_arg : Sh := ⟨[.agg [.pv (.int .i64), .pv (.int .i64), .pv (.int .i64)], .agg [.pv (.int .i64), .pv (.int .i64), .pv (.int .i64)]], []⟩
def l_eqPoint_ret : Sh := ⟨[.pv .bool], []⟩
def l_eqPoint_h : Hint := .no
def l_eqPoint_m (N : Nat) (a : Int) (a2 : Int) (a3 : Int) (b : Int) (b2 : Int) (b3 : Int) : Option (Bool) :=
 (bif (!decide (a = b)) then
 (some false)
 else
 (bif (!decide (a2 = b2)) then
 (some false)
 else
 (bif (!decide (a3 = b3)) then
 (some false)
 else
 (some true))))
def l_eqPoint_M (N : Nat) : Model := ⟨l_eqPoint_arg, l_eqPoint_ret, fun a => l_eqPoint_m N a.1 a.2.1 a.2.2.1 a.2.2.2.1 a.2.2.2.2.1 a.2.2.2.2.2⟩
set_option maxRecDepth 1000000 in
theorem l_eqPoint_ok (N : Nat) : ModelOk Try.prog 57 (l_eqPoint_M N) :=
  modelOk_of (E := mkEnv [] [] []) (mkEnv_ok fnsOk_nil _ _) Try.func57 (by kernel_rfl) rfl N l_eqPoint_h (l_eqPoint_M N) (by kernel_rfl) (by kernel_rfl) (fun a => by kernel_rfl)
/-! loop.example/fossick/laws.eqBox -/
def l_eqBox_arg : Sh := ⟨[.agg [.pv (.int .i64), .pv (.int .i64), .pv (.int .i64), .pv (.int .i64)], .agg [.pv (.int .i64), .pv (.int .i64), .pv (.int .i64), .pv (.int .i64)]], []⟩
def l_eqBox_ret : Sh := ⟨[.pv .bool], []⟩
def l_eqBox_h : Hint := .no
def l_eqBox_m (N : Nat) (a : Int) (a2 : Int) (a3 : Int) (a4 : Int) (b : Int) (b2 : Int) (b3 : Int) (b4 : Int) : Option (Bool) :=
 (bif (!decide (a = b)) then
 (some false)
 else
 (bif (!decide (a2 = b2)) then
 (some false)
 else
 (bif (!decide (a3 = b3)) then
 (some false)
 else
 (bif (!decide (a4 = b4)) then
 (some false)
 else
 (some true)))))
def l_eqBox_M (N : Nat) : Model := ⟨l_eqBox_arg, l_eqBox_ret, fun a => l_eqBox_m N a.1 a.2.1 a.2.2.1 a.2.2.2.1 a.2.2.2.2.1 a.2.2.2.2.2.1 a.2.2.2.2.2.2.1 a.2.2.2.2.2.2.2⟩
set_option maxRecDepth 1000000 in
theorem l_eqBox_ok (N : Nat) : ModelOk Try.prog 58 (l_eqBox_M N) :=
  modelOk_of (E := mkEnv [] [] []) (mkEnv_ok fnsOk_nil _ _) Try.func58 (by kernel_rfl) rfl N l_eqBox_h (l_eqBox_M N) (by kernel_rfl) (by kernel_rfl) (fun a => by kernel_rfl)
/-! loop.example/fossick/laws.eqKnot -/
def l_eqKnot_arg : Sh := ⟨[.agg [.pv (.int .i64), .pv (.int .i64), .pv (.int .i64), .pv (.int .i64), .pv (.int .i64), .pv (.int .i64), .pv (.int .i64), .pv (.int .i64)], .agg [.pv (.int .i64), .pv (.int .i64), .pv (.int .i64), .pv (.int .i64), .pv (.int .i64), .pv (.int .i64), .pv (.int .i64), .pv (.int .i64)]], []⟩
def l_eqKnot_ret : Sh := ⟨[.pv .bool], []⟩
def l_eqKnot_h : Hint := .no
def l_eqKnot_m (N : Nat) (a : Int) (a2 : Int) (a3 : Int) (a4 : Int) (a5 : Int) (a6 : Int) (a7 : Int) (a8 : Int) (b : Int) (b2 : Int) (b3 : Int) (b4 : Int) (b5 : Int) (b6 : Int) (b7 : Int) (b8 : Int) : Option (Bool) :=
 (Option.bind (l_eqPoint_m N a a2 a3 b b2 b3) fun (r : Bool) =>
 (bif (!r) then
 (some false)
 else
 (bif (!decide (a4 = b4)) then
 (some false)
 else
 (Option.bind (l_eqBox_m N a5 a6 a7 a8 b5 b6 b7 b8) fun (r2 : Bool) =>
 (bif (!r2) then
 (some false)
 else
 (some true))))))
def l_eqKnot_M (N : Nat) : Model := ⟨l_eqKnot_arg, l_eqKnot_ret, fun a => l_eqKnot_m N a.1 a.2.1 a.2.2.1 a.2.2.2.1 a.2.2.2.2.1 a.2.2.2.2.2.1 a.2.2.2.2.2.2.1 a.2.2.2.2.2.2.2.1 a.2.2.2.2.2.2.2.2.1 a.2.2.2.2.2.2.2.2.2.1 a.2.2.2.2.2.2.2.2.2.2.1 a.2.2.2.2.2.2.2.2.2.2.2.1 a.2.2.2.2.2.2.2.2.2.2.2.2.1 a.2.2.2.2.2.2.2.2.2.2.2.2.2.1 a.2.2.2.2.2.2.2.2.2.2.2.2.2.2.1 a.2.2.2.2.2.2.2.2.2.2.2.2.2.2.2⟩
set_option maxRecDepth 1000000 in
theorem l_eqKnot_ok (N : Nat) : ModelOk Try.prog 40 (l_eqKnot_M N) :=
  modelOk_of (E := mkEnv [(57, l_eqPoint_M N), (58, l_eqBox_M N)] [] []) (mkEnv_ok (fnsOk_cons (l_eqPoint_ok N) (fnsOk_cons (l_eqBox_ok N) fnsOk_nil)) _ _) Try.func40 (by kernel_rfl) rfl N l_eqKnot_h (l_eqKnot_M N) (by kernel_rfl) (by kernel_rfl) (fun a => by kernel_rfl)
/-! loop.example/fossick/laws.eqKnotS -/
def l_eqKnotS_arg : Sh := ⟨[.pv (.sl (.pair (.pair (.int .i64) (.pair (.int .i64) (.int .i64))) (.pair (.int .i64) (.pair (.int .i64) (.pair (.int .i64) (.pair (.int .i64) (.int .i64))))))), .pv (.sl (.pair (.pair (.int .i64) (.pair (.int .i64) (.int .i64))) (.pair (.int .i64) (.pair (.int .i64) (.pair (.int .i64) (.pair (.int .i64) (.int .i64)))))))], []⟩
def l_eqKnotS_ret : Sh := ⟨[.pv .bool], []⟩
def l_eqKnotS_s1 : Sh := ⟨[.pv (.sl (.pair (.pair (.int .i64) (.pair (.int .i64) (.int .i64))) (.pair (.int .i64) (.pair (.int .i64) (.pair (.int .i64) (.pair (.int .i64) (.int .i64))))))), .pv (.sl (.pair (.pair (.int .i64) (.pair (.int .i64) (.int .i64))) (.pair (.int .i64) (.pair (.int .i64) (.pair (.int .i64) (.pair (.int .i64) (.int .i64))))))), .dead, .dead, .dead, .pv (.int .i64), .dead, .dead, .dead, .dead, .dead, .dead, .dead, .dead, .dead, .dead, .dead, .dead, .dead, .dead, .dead, .dead, .dead, .dead, .dead, .dead, .dead], []⟩
def l_eqKnotS_h : Hint := (.seq .no (.seq .no (.seq (.seq .no (.block (.loop l_eqKnotS_s1 .no))) .no)))
def l_eqKnotS_m (N : Nat) (a : List ((Int × Int × Int) × Int × Int × Int × Int × Int)) (b : List ((Int × Int × Int) × Int × Int × Int × Int × Int)) : Option (Bool) :=
 (bif (!decide ((a.length : Int) = (b.length : Int))) then
 (some false)
 else
 (iter (fun (go : ((List ((Int × Int × Int) × Int × Int × Int × Int × Int)) × (List ((Int × Int × Int) × Int × Int × Int × Int × Int)) × Int) → Option Bool) (g : (List ((Int × Int × Int) × Int × Int × Int × Int × Int)) × (List ((Int × Int × Int) × Int × Int × Int × Int × Int)) × Int) =>
 match g with
 | (a2, b2, i) =>
 (bif (decide (i < (a2.length : Int))) then
 (Option.bind (idx a2 i) fun (e : (Int × Int × Int) × Int × Int × Int × Int × Int) =>
 (Option.bind (idx b2 i) fun (e2 : (Int × Int × Int) × Int × Int × Int × Int × Int) =>
 (Option.bind (l_eqKnot_m N e.1.1 e.1.2.1 e.1.2.2 e.2.1 e.2.2.1 e.2.2.2.1 e.2.2.2.2.1 e.2.2.2.2.2 e2.1.1 e2.1.2.1 e2.1.2.2 e2.2.1 e2.2.2.1 e2.2.2.2.1 e2.2.2.2.2.1 e2.2.2.2.2.2) fun (r : Bool) =>
 (bif (!r) then
 (some false)
 else
 (if fits (i + 1) then (go (a2, b2, (i + 1))) else none)))))
 else
 (some true))) N (a, b, 0)))
def l_eqKnotS_M (N : Nat) : Model := ⟨l_eqKnotS_arg, l_eqKnotS_ret, fun a => l_eqKnotS_m N a.1 a.2⟩
set_option maxRecDepth 1000000 in
theorem l_eqKnotS_ok (N : Nat) : ModelOk Try.prog 21 (l_eqKnotS_M N) :=
  modelOk_of (E := mkEnv [(40, l_eqKnot_M N)] [] []) (mkEnv_ok (fnsOk_cons (l_eqKnot_ok N) fnsOk_nil) _ _) Try.func21 (by kernel_rfl) rfl N l_eqKnotS_h (l_eqKnotS_M N) (by kernel_rfl) (by kernel_rfl) (fun a => by kernel_rfl)
/-! loop.example/fossick/laws.markKnotS -/
def l_markKnotS_arg : Sh := ⟨[.mtk 800000 (.pair (.pair (.int .i64) (.pair (.int .i64) (.int .i64))) (.pair (.int .i64) (.pair (.int .i64) (.pair (.int .i64) (.pair (.int .i64) (.int .i64)))))) 38 true, .pv (.int .i64)], []⟩
def l_markKnotS_ret : Sh := ⟨[.pv (.int .i64), .mtk 800000 (.pair (.pair (.int .i64) (.pair (.int .i64) (.int .i64))) (.pair (.int .i64) (.pair (.int .i64) (.pair (.int .i64) (.pair (.int .i64) (.int .i64)))))) 38 true], []⟩
def l_markKnotS_s1 : Sh := ⟨[.mtk 800000 (.pair (.pair (.int .i64) (.pair (.int .i64) (.int .i64))) (.pair (.int .i64) (.pair (.int .i64) (.pair (.int .i64) (.pair (.int .i64) (.int .i64)))))) 38 true, .pv (.int .i64), .dead, .dead, .dead, .pv (.int .i64), .dead, .dead, .dead, .dead, .dead, .dead, .dead, .dead, .dead, .dead, .dead, .dead, .dead, .dead, .dead, .dead, .dead, .dead, .dead, .dead, .dead, .dead, .dead, .dead, .dead, .dead, .dead, .dead, .dead, .dead, .dead, .dead, .dead, .dead, .dead, .dead, .dead, .dead, .dead, .dead, .dead, .dead, .dead, .dead, .dead, .dead, .dead, .dead, .dead, .dead, .dead, .dead, .dead, .dead, .dead, .dead, .dead, .dead, .dead, .dead, .dead, .dead, .dead, .dead, .dead, .dead, .dead, .dead, .dead, .dead], []⟩
def l_markKnotS_h : Hint := (.seq .no (.seq (.seq .no (.block (.loop l_markKnotS_s1 .no))) .no))
def l_markKnotS_m (N : Nat) (a : List ((Int × Int × Int) × Int × Int × Int × Int × Int)) (k : Int) : Option (Int × (List ((Int × Int × Int) × Int × Int × Int × Int × Int))) :=
 (iter (fun (go : ((List ((Int × Int × Int) × Int × Int × Int × Int × Int)) × Int × Int) → Option (Int × (List ((Int × Int × Int) × Int × Int × Int × Int × Int)))) (g : (List ((Int × Int × Int) × Int × Int × Int × Int × Int)) × Int × Int) =>
 match g with
 | (a2, k2, i) =>
 (bif (decide (i < (a2.length : Int))) then
 (if 0 ≤ i ∧ i < (a2.length : Int) then
 (Option.bind (a2[i.toNat]?) fun (e : (Int × Int × Int) × Int × Int × Int × Int × Int) =>
 (if fits (k2 + 1) then (if 0 ≤ i ∧ i < ((a2.set i.toNat ((k2, e.1.2), e.2)).length : Int) then
 (Option.bind ((a2.set i.toNat ((k2, e.1.2), e.2))[i.toNat]?) fun (e2 : (Int × Int × Int) × Int × Int × Int × Int × Int) =>
 (if fits ((k2 + 1) + 1) then (if 0 ≤ i ∧ i < (((a2.set i.toNat ((k2, e.1.2), e.2)).set i.toNat ((e2.1.1, (k2 + 1), e2.1.2.2), e2.2)).length : Int) then
 (Option.bind (((a2.set i.toNat ((k2, e.1.2), e.2)).set i.toNat ((e2.1.1, (k2 + 1), e2.1.2.2), e2.2))[i.toNat]?) fun (e3 : (Int × Int × Int) × Int × Int × Int × Int × Int) =>
 (if fits (((k2 + 1) + 1) + 1) then (if 0 ≤ i ∧ i < ((((a2.set i.toNat ((k2, e.1.2), e.2)).set i.toNat ((e2.1.1, (k2 + 1), e2.1.2.2), e2.2)).set i.toNat ((e3.1.1, e3.1.2.1, ((k2 + 1) + 1)), e3.2)).length : Int) then
 (Option.bind ((((a2.set i.toNat ((k2, e.1.2), e.2)).set i.toNat ((e2.1.1, (k2 + 1), e2.1.2.2), e2.2)).set i.toNat ((e3.1.1, e3.1.2.1, ((k2 + 1) + 1)), e3.2))[i.toNat]?) fun (e4 : (Int × Int × Int) × Int × Int × Int × Int × Int) =>
 (if fits ((((k2 + 1) + 1) + 1) + 1) then (if 0 ≤ i ∧ i < (((((a2.set i.toNat ((k2, e.1.2), e.2)).set i.toNat ((e2.1.1, (k2 + 1), e2.1.2.2), e2.2)).set i.toNat ((e3.1.1, e3.1.2.1, ((k2 + 1) + 1)), e3.2)).set i.toNat (e4.1, (((k2 + 1) + 1) + 1), e4.2.2)).length : Int) then
 (Option.bind (((((a2.set i.toNat ((k2, e.1.2), e.2)).set i.toNat ((e2.1.1, (k2 + 1), e2.1.2.2), e2.2)).set i.toNat ((e3.1.1, e3.1.2.1, ((k2 + 1) + 1)), e3.2)).set i.toNat (e4.1, (((k2 + 1) + 1) + 1), e4.2.2))[i.toNat]?) fun (e5 : (Int × Int × Int) × Int × Int × Int × Int × Int) =>
 (if fits (((((k2 + 1) + 1) + 1) + 1) + 1) then (if 0 ≤ i ∧ i < ((((((a2.set i.toNat ((k2, e.1.2), e.2)).set i.toNat ((e2.1.1, (k2 + 1), e2.1.2.2), e2.2)).set i.toNat ((e3.1.1, e3.1.2.1, ((k2 + 1) + 1)), e3.2)).set i.toNat (e4.1, (((k2 + 1) + 1) + 1), e4.2.2)).set i.toNat (e5.1, e5.2.1, ((((k2 + 1) + 1) + 1) + 1), e5.2.2.2)).length : Int) then
 (Option.bind ((((((a2.set i.toNat ((k2, e.1.2), e.2)).set i.toNat ((e2.1.1, (k2 + 1), e2.1.2.2), e2.2)).set i.toNat ((e3.1.1, e3.1.2.1, ((k2 + 1) + 1)), e3.2)).set i.toNat (e4.1, (((k2 + 1) + 1) + 1), e4.2.2)).set i.toNat (e5.1, e5.2.1, ((((k2 + 1) + 1) + 1) + 1), e5.2.2.2))[i.toNat]?) fun (e6 : (Int × Int × Int) × Int × Int × Int × Int × Int) =>
 (if fits ((((((k2 + 1) + 1) + 1) + 1) + 1) + 1) then (if 0 ≤ i ∧ i < (((((((a2.set i.toNat ((k2, e.1.2), e.2)).set i.toNat ((e2.1.1, (k2 + 1), e2.1.2.2), e2.2)).set i.toNat ((e3.1.1, e3.1.2.1, ((k2 + 1) + 1)), e3.2)).set i.toNat (e4.1, (((k2 + 1) + 1) + 1), e4.2.2)).set i.toNat (e5.1, e5.2.1, ((((k2 + 1) + 1) + 1) + 1), e5.2.2.2)).set i.toNat (e6.1, e6.2.1, e6.2.2.1, (((((k2 + 1) + 1) + 1) + 1) + 1), e6.2.2.2.2)).length : Int) then
 (Option.bind (((((((a2.set i.toNat ((k2, e.1.2), e.2)).set i.toNat ((e2.1.1, (k2 + 1), e2.1.2.2), e2.2)).set i.toNat ((e3.1.1, e3.1.2.1, ((k2 + 1) + 1)), e3.2)).set i.toNat (e4.1, (((k2 + 1) + 1) + 1), e4.2.2)).set i.toNat (e5.1, e5.2.1, ((((k2 + 1) + 1) + 1) + 1), e5.2.2.2)).set i.toNat (e6.1, e6.2.1, e6.2.2.1, (((((k2 + 1) + 1) + 1) + 1) + 1), e6.2.2.2.2))[i.toNat]?) fun (e7 : (Int × Int × Int) × Int × Int × Int × Int × Int) =>
 (if fits (((((((k2 + 1) + 1) + 1) + 1) + 1) + 1) + 1) then (if 0 ≤ i ∧ i < ((((((((a2.set i.toNat ((k2, e.1.2), e.2)).set i.toNat ((e2.1.1, (k2 + 1), e2.1.2.2), e2.2)).set i.toNat ((e3.1.1, e3.1.2.1, ((k2 + 1) + 1)), e3.2)).set i.toNat (e4.1, (((k2 + 1) + 1) + 1), e4.2.2)).set i.toNat (e5.1, e5.2.1, ((((k2 + 1) + 1) + 1) + 1), e5.2.2.2)).set i.toNat (e6.1, e6.2.1, e6.2.2.1, (((((k2 + 1) + 1) + 1) + 1) + 1), e6.2.2.2.2)).set i.toNat (e7.1, e7.2.1, e7.2.2.1, e7.2.2.2.1, ((((((k2 + 1) + 1) + 1) + 1) + 1) + 1), e7.2.2.2.2.2)).length : Int) then
 (Option.bind ((((((((a2.set i.toNat ((k2, e.1.2), e.2)).set i.toNat ((e2.1.1, (k2 + 1), e2.1.2.2), e2.2)).set i.toNat ((e3.1.1, e3.1.2.1, ((k2 + 1) + 1)), e3.2)).set i.toNat (e4.1, (((k2 + 1) + 1) + 1), e4.2.2)).set i.toNat (e5.1, e5.2.1, ((((k2 + 1) + 1) + 1) + 1), e5.2.2.2)).set i.toNat (e6.1, e6.2.1, e6.2.2.1, (((((k2 + 1) + 1) + 1) + 1) + 1), e6.2.2.2.2)).set i.toNat (e7.1, e7.2.1, e7.2.2.1, e7.2.2.2.1, ((((((k2 + 1) + 1) + 1) + 1) + 1) + 1), e7.2.2.2.2.2))[i.toNat]?) fun (e8 : (Int × Int × Int) × Int × Int × Int × Int × Int) =>
 (if fits ((((((((k2 + 1) + 1) + 1) + 1) + 1) + 1) + 1) + 1) then (if fits (i + 1) then (go (((((((((a2.set i.toNat ((k2, e.1.2), e.2)).set i.toNat ((e2.1.1, (k2 + 1), e2.1.2.2), e2.2)).set i.toNat ((e3.1.1, e3.1.2.1, ((k2 + 1) + 1)), e3.2)).set i.toNat (e4.1, (((k2 + 1) + 1) + 1), e4.2.2)).set i.toNat (e5.1, e5.2.1, ((((k2 + 1) + 1) + 1) + 1), e5.2.2.2)).set i.toNat (e6.1, e6.2.1, e6.2.2.1, (((((k2 + 1) + 1) + 1) + 1) + 1), e6.2.2.2.2)).set i.toNat (e7.1, e7.2.1, e7.2.2.1, e7.2.2.2.1, ((((((k2 + 1) + 1) + 1) + 1) + 1) + 1), e7.2.2.2.2.2)).set i.toNat (e8.1, e8.2.1, e8.2.2.1, e8.2.2.2.1, e8.2.2.2.2.1, (((((((k2 + 1) + 1) + 1) + 1) + 1) + 1) + 1))), ((((((((k2 + 1) + 1) + 1) + 1) + 1) + 1) + 1) + 1), (i + 1))) else none) else none))
 else none) else none))
 else none) else none))
 else none) else none))
 else none) else none))
 else none) else none))
 else none) else none))
 else none) else none))
 else none)
 else
 (some (k2, a2)))) N (a, k, 0))
def l_markKnotS_M (N : Nat) : Model := ⟨l_markKnotS_arg, l_markKnotS_ret, fun a => l_markKnotS_m N a.1 a.2⟩
set_option maxRecDepth 1000000 in
theorem l_markKnotS_ok (N : Nat) : ModelOk Try.prog 22 (l_markKnotS_M N) :=
  modelOk_of (E := mkEnv [] [] [800000]) (mkEnv_ok fnsOk_nil _ _) Try.func22 (by kernel_rfl) rfl N l_markKnotS_h (l_markKnotS_M N) (by kernel_rfl) (by kernel_rfl) (fun a => by kernel_rfl)
/-! loop.example/fossick/laws.markIntS -/
def l_markIntS_arg : Sh := ⟨[.mtk 800000 (.int .i64) 3 true, .pv (.int .i64)], []⟩
def l_markIntS_ret : Sh := ⟨[.pv (.int .i64), .mtk 800000 (.int .i64) 3 true], []⟩
def l_markIntS_s1 : Sh := ⟨[.mtk 800000 (.int .i64) 3 true, .pv (.int .i64), .dead, .dead, .dead, .pv (.int .i64), .dead, .dead, .dead, .dead, .dead, .dead, .dead, .dead, .dead, .dead, .dead, .dead, .dead], []⟩
def l_markIntS_h : Hint := (.seq .no (.seq (.seq .no (.block (.loop l_markIntS_s1 .no))) .no))
def l_markIntS_m (N : Nat) (a : List Int) (k : Int) : Option (Int × (List Int)) :=
 (iter (fun (go : ((List Int) × Int × Int) → Option (Int × (List Int))) (g : (List Int) × Int × Int) =>
 match g with
 | (a2, k2, i) =>
 (bif (decide (i < (a2.length : Int))) then
 (if 0 ≤ i ∧ i < (a2.length : Int) then
 (Option.bind (a2[i.toNat]?) fun (e : Int) =>
 (if fits (k2 + 1) then (if fits (i + 1) then (go ((a2.set i.toNat k2), (k2 + 1), (i + 1))) else none) else none))
 else none)
 else
 (some (k2, a2)))) N (a, k, 0))
def l_markIntS_M (N : Nat) : Model := ⟨l_markIntS_arg, l_markIntS_ret, fun a => l_markIntS_m N a.1 a.2⟩
set_option maxRecDepth 1000000 in
theorem l_markIntS_ok (N : Nat) : ModelOk Try.prog 23 (l_markIntS_M N) :=
  modelOk_of (E := mkEnv [] [] [800000]) (mkEnv_ok fnsOk_nil _ _) Try.func23 (by kernel_rfl) rfl N l_markIntS_h (l_markIntS_M N) (by kernel_rfl) (by kernel_rfl) (fun a => by kernel_rfl)
/-! loop.example/fossick/laws.heldIntS -/
def l_heldIntS_arg : Sh := ⟨[.pv (.sl (.int .i64)), .pv (.int .i64)], []⟩
def l_heldIntS_ret : Sh := ⟨[.pv (.int .i64)], []⟩
def l_heldIntS_s1 : Sh := ⟨[.pv (.sl (.int .i64)), .pv (.int .i64), .dead, .dead, .dead, .pv (.int .i64), .dead, .dead, .dead, .dead, .dead, .dead, .dead, .dead, .dead, .dead, .dead, .dead, .dead, .dead, .dead], []⟩
def l_heldIntS_h : Hint := (.seq .no (.seq (.seq .no (.block (.loop l_heldIntS_s1 .no))) .no))
def l_heldIntS_m (N : Nat) (a : List Int) (k : Int) : Option (Int) :=
 (iter (fun (go : ((List Int) × Int × Int) → Option Int) (g : (List Int) × Int × Int) =>
 match g with
 | (a2, k2, i) =>
 (bif (decide (i < (a2.length : Int))) then
 (Option.bind (idx a2 i) fun (e : Int) =>
 (bif (!decide (e = k2)) then
 (some (-1))
 else
 (if fits (k2 + 1) then (if fits (i + 1) then (go (a2, (k2 + 1), (i + 1))) else none) else none)))
 else
 (some k2))) N (a, k, 0))
def l_heldIntS_M (N : Nat) : Model := ⟨l_heldIntS_arg, l_heldIntS_ret, fun a => l_heldIntS_m N a.1 a.2⟩
set_option maxRecDepth 1000000 in
theorem l_heldIntS_ok (N : Nat) : ModelOk Try.prog 24 (l_heldIntS_M N) :=
  modelOk_of (E := mkEnv [] [] []) (mkEnv_ok fnsOk_nil _ _) Try.func24 (by kernel_rfl) rfl N l_heldIntS_h (l_heldIntS_M N) (by kernel_rfl) (by kernel_rfl) (fun a => by kernel_rfl)
/-! loop.example/fossick/laws.FnExactKnotsFind -/
def l_FnExactKnotsFind_arg : Sh := ⟨[.pv (.sl (.pair (.pair (.int .i64) (.pair (.int .i64) (.int .i64))) (.pair (.int .i64) (.pair (.int .i64) (.pair (.int .i64) (.pair (.int .i64) (.int .i64))))))), .agg [.pv (.int .i64), .pv (.int .i64), .pv (.int .i64), .pv (.int .i64)]], []⟩
def l_FnExactKnotsFind_ret : Sh := ⟨[.pv .bool], []⟩
def l_FnExactKnotsFind_h : Hint := .no
def l_FnExactKnotsFind_m (N : Nat) (aX : List ((Int × Int × Int) × Int × Int × Int × Int × Int)) (aB : Int) (aB2 : Int) (aB3 : Int) (aB4 : Int) : Option (Bool) :=
 (Option.bind (l_szKnotS_m N aX 1048576) fun (r : Int) =>
 (bif (decide (r < 0)) then
 (some true)
 else
 (Option.bind (l_toKnotS_m N aX) fun (r2 : (List ((Int × Int × Int) × Int × Int × Int × Int × Int))) =>
 (Option.bind (l_toBox_m N aB aB2 aB3 aB4) fun (r3 : Int × Int × Int × Int) =>
 (Option.bind (s_KnotsFind_m N r2 r3.1 r3.2.1 r3.2.2.1 r3.2.2.2) fun (r4 : (List Int) × Int) =>
 (Option.bind (l_toKnotS_m N aX) fun (r5 : (List ((Int × Int × Int) × Int × Int × Int × Int × Int))) =>
 (Option.bind (l_toBox_m N aB aB2 aB3 aB4) fun (r6 : Int × Int × Int × Int) =>
 (Option.bind (i_KnotsFind_m N r5 r6.1 r6.2.1 r6.2.2.1 r6.2.2.2) fun (r7 : (List Int) × Int) =>
 (Option.bind (l_eqIntS_m N r7.1 r4.1) fun (r8 : Bool) =>
 (bif (!r8) then
 (some false)
 else
 (bif (!decide (r7.2 = r4.2)) then
 (some false)
 else
 (Option.bind (l_toKnotS_m N aX) fun (r9 : (List ((Int × Int × Int) × Int × Int × Int × Int × Int))) =>
 (Option.bind (l_eqKnotS_m N r5 r9) fun (r10 : Bool) =>
 (bif (!r10) then
 (some false)
 else
 (Option.bind (l_markKnotS_m N r5 1) fun (r11 : Int × (List ((Int × Int × Int) × Int × Int × Int × Int × Int))) =>
 (bif (decide (r11.1 < 0)) then
 (some false)
 else
 (Option.bind (l_eqIntS_m N r7.1 r4.1) fun (r12 : Bool) =>
 (bif (!r12) then
 (some false)
 else
 (bif (!decide (r7.2 = r4.2)) then
 (some false)
 else
 (Option.bind (l_markIntS_m N r7.1 1) fun (r13 : Int × (List Int)) =>
 (Option.bind (l_heldIntS_m N r13.2 1) fun (r14 : Int) =>
 (bif (decide (r14 < 0)) then
 (some false)
 else
 (bif (!decide (r14 = r13.1)) then
 (some false)
 else
 (Option.bind (l_toKnotS_m N aX) fun (r15 : (List ((Int × Int × Int) × Int × Int × Int × Int × Int))) =>
 (Option.bind (l_toBox_m N aB aB2 aB3 aB4) fun (r16 : Int × Int × Int × Int) =>
 (Option.bind (i_KnotsFind_m N r15 r16.1 r16.2.1 r16.2.2.1 r16.2.2.2) fun (r17 : (List Int) × Int) =>
 (Option.bind (l_eqIntS_m N r17.1 r4.1) fun (r18 : Bool) =>
 (bif (!r18) then
 (some false)
 else
 (bif (!decide (r17.2 = r4.2)) then
 (some false)
 else
 (Option.bind (l_heldIntS_m N r13.2 1) fun (r19 : Int) =>
 (bif (decide (r19 < 0)) then
 (some false)
 else
 (bif (!decide (r19 = r13.1)) then
 (some false)
 else
 (some true)))))))))))))))))))))))))))))))))
def l_FnExactKnotsFind_M (N : Nat) : Model := ⟨l_FnExactKnotsFind_arg, l_FnExactKnotsFind_ret, fun a => l_FnExactKnotsFind_m N a.1 a.2.1 a.2.2.1 a.2.2.2.1 a.2.2.2.2⟩
set_option maxRecDepth 1000000 in
theorem l_FnExactKnotsFind_ok (N : Nat) : ModelOk Try.prog 4 (l_FnExactKnotsFind_M N) :=
  modelOk_of (E := mkEnv [(17, l_szKnotS_M N), (18, l_toKnotS_M N), (19, l_toBox_M N), (8, s_KnotsFind_M N), (7, i_KnotsFind_M N), (20, l_eqIntS_M N), (21, l_eqKnotS_M N), (22, l_markKnotS_M N), (23, l_markIntS_M N), (24, l_heldIntS_M N)] [] [] [23, 25, 30, 34, 35, 40, 49, 50, 60, 73, 81, 83, 84, 89, 98]) (mkEnv_ok (fnsOk_cons (l_szKnotS_ok N) (fnsOk_cons (l_toKnotS_ok N) (fnsOk_cons (l_toBox_ok N) (fnsOk_cons (s_KnotsFind_ok N) (fnsOk_cons (i_KnotsFind_ok N) (fnsOk_cons (l_eqIntS_ok N) (fnsOk_cons (l_eqKnotS_ok N) (fnsOk_cons (l_markKnotS_ok N) (fnsOk_cons (l_markIntS_ok N) (fnsOk_cons (l_heldIntS_ok N) fnsOk_nil)))))))))) _ _ _) Try.func4 (by kernel_rfl) rfl N l_FnExactKnotsFind_h (l_FnExactKnotsFind_M N) (by kernel_rfl) (by kernel_rfl) (fun a => by kernel_rfl)
/-! slices.Compact[[]int,int] -/
def k_slices_Compact_192_arg : Sh := ⟨[.pv (.sl (.int .i64))], []⟩
def k_slices_Compact_192_ret : Sh := ⟨[.pv (.sl (.int .i64))], []⟩
def k_slices_Compact_192_s1 : Sh := ⟨[.pv (.sl (.int .i64)), .dead, .dead, .pv (.int .i64), .dead, .dead, .dead, .dead, .dead, .dead, .dead, .dead, .dead, .dead, .dead, .dead, .dead, .dead, .dead, .dead, .dead, .dead, .dead, .dead, .dead, .dead, .dead, .dead, .dead, .dead, .dead, .dead, .dead, .dead, .dead, .dead, .dead, .dead, .dead, .dead, .dead, .dead, .dead, .dead, .dead, .dead, .dead, .dead, .dead, .dead, .dead, .dead, .dead, .dead, .dead, .dead, .dead, .dead, .dead, .dead, .dead], []⟩
def k_slices_Compact_192_h : Hint := (.seq .no (.seq .no (.seq (.seq .no (.block (.loop k_slices_Compact_192_s1 .no))) .no)))
def k_slices_Compact_192_m (N : Nat) (s : List Int) : Option ((List Int)) :=
 (bif (decide ((s.length : Int) < 2)) then
 (some s)
 else
 (iter (fun (go : ((List Int) × Int) → Option ((List Int))) (g : (List Int) × Int) =>
 match g with
 | (s2, k) =>
 (bif (decide (k < (s2.length : Int))) then
 (Option.bind (idx s2 k) fun (e : Int) =>
 (if fits (k - 1) then (Option.bind (idx s2 (k - 1)) fun (e2 : Int) =>
 (bif (decide (e = e2)) then
 (Option.bind (cut s2 k (s2.length : Int)) fun (y : List Int) =>
 none)
 else
 (if fits (k + 1) then (go (s2, (k + 1))) else none))) else none))
 else
 (some s2))) N (s, 1)))
def k_slices_Compact_192_M (N : Nat) : Model := ⟨k_slices_Compact_192_arg, k_slices_Compact_192_ret, fun a => k_slices_Compact_192_m N a⟩
set_option maxRecDepth 1000000 in
theorem k_slices_Compact_192_ok (N : Nat) : ModelOk Try.prog 41 (k_slices_Compact_192_M N) :=
  modelOk_of (E := mkEnv [] [] []) (mkEnv_ok fnsOk_nil _ _) Try.func41 (by kernel_rfl) rfl N k_slices_Compact_192_h (k_slices_Compact_192_M N) (by kernel_rfl) (by kernel_rfl) (fun a => by kernel_rfl)
/-! loop.example/fossick/impl.SetOr -/
def i_SetOr_arg : Sh := ⟨[.pv (.sl (.int .i64)), .pv (.sl (.int .i64))], []⟩
def i_SetOr_ret : Sh := ⟨[.own 1 (.int .i64) 3 true], []⟩
def i_SetOr_h : Hint := .no
def i_SetOr_m (N : Nat) (a : List Int) (b : List Int) : Option ((List Int)) :=
 (Option.bind (i_UpOk_m N a) fun (r : Bool) =>
 (bif (!r) then
 (some ([] : List Int))
 else
 (Option.bind (i_UpOk_m N b) fun (r2 : Bool) =>
 (bif (!r2) then
 (some ([] : List Int))
 else
 (if room ([] : List Int).length a.length 8 then
 (if room (([] : List Int) ++ a).length b.length 8 then
 (Option.bind (k_slices_Sort_287_m N ((([] : List Int) ++ a) ++ b)) fun (r3 : (List Int)) =>
 (Option.bind (k_slices_Compact_192_m N r3) fun (r4 : (List Int)) =>
 (if room ([] : List Int).length r4.length 8 then
 (some (([] : List Int) ++ r4))
 else none)))
 else none)
 else none)))))
def i_SetOr_M (N : Nat) : Model := ⟨i_SetOr_arg, i_SetOr_ret, fun a => i_SetOr_m N a.1 a.2⟩
set_option maxRecDepth 1000000 in
theorem i_SetOr_ok (N : Nat) : ModelOk Try.prog 25 (i_SetOr_M N) :=
  modelOk_of (E := mkEnv [(16, i_UpOk_M N), (31, k_slices_Sort_287_M N), (41, k_slices_Compact_192_M N)] [14, 15, 17, 19, 22, 25] []) (mkEnv_ok (fnsOk_cons (i_UpOk_ok N) (fnsOk_cons (k_slices_Sort_287_ok N) (fnsOk_cons (k_slices_Compact_192_ok N) fnsOk_nil))) _ _) Try.func25 (by kernel_rfl) rfl N i_SetOr_h (i_SetOr_M N) (by kernel_rfl) (by kernel_rfl) (fun a => by kernel_rfl)
/-! slices.Index[[]int,int] -/
def k_slices_Index_484_arg : Sh := ⟨[.pv (.sl (.int .i64)), .pv (.int .i64)], []⟩
def k_slices_Index_484_ret : Sh := ⟨[.pv (.int .i64)], []⟩
def k_slices_Index_484_s1 : Sh := ⟨[.pv (.sl (.int .i64)), .pv (.int .i64), .dead, .dead, .dead, .dead, .dead, .pv (.int .i64), .pv (.int .i64), .dead, .dead, .dead, .dead, .dead, .dead, .dead, .dead, .dead, .dead], []⟩
def k_slices_Index_484_h : Hint := (.seq .no (.seq (.seq .no (.block (.loop k_slices_Index_484_s1 .no))) .no))
def k_slices_Index_484_m (N : Nat) (s : List Int) (v : Int) : Option (Int) :=
 (iter (fun (go : ((List Int) × Int × Int × Int) → Option Int) (g : (List Int) × Int × Int × Int) =>
 match g with
 | (s2, v2, t7, t8) =>
 (bif (decide (t8 < t7)) then
 (Option.bind (idx s2 t8) fun (e : Int) =>
 (bif (decide (v2 = e)) then
 (some t8)
 else
 (if fits (t8 + 1) then (go (s2, v2, t7, (t8 + 1))) else none)))
 else
 (some (-1)))) N (s, v, (s.length : Int), 0))
def k_slices_Index_484_M (N : Nat) : Model := ⟨k_slices_Index_484_arg, k_slices_Index_484_ret, fun a => k_slices_Index_484_m N a.1 a.2⟩
set_option maxRecDepth 1000000 in
theorem k_slices_Index_484_ok (N : Nat) : ModelOk Try.prog 59 (k_slices_Index_484_M N) :=
  modelOk_of (E := mkEnv [] [] []) (mkEnv_ok fnsOk_nil _ _) Try.func59 (by kernel_rfl) rfl N k_slices_Index_484_h (k_slices_Index_484_M N) (by kernel_rfl) (by kernel_rfl) (fun a => by kernel_rfl)
/-! slices.Contains[[]int,int] -/
def k_slices_Contains_735_arg : Sh := ⟨[.pv (.sl (.int .i64)), .pv (.int .i64)], []⟩
def k_slices_Contains_735_ret : Sh := ⟨[.pv .bool], []⟩
def k_slices_Contains_735_h : Hint := .no
def k_slices_Contains_735_m (N : Nat) (s : List Int) (v : Int) : Option (Bool) :=
 (Option.bind (k_slices_Index_484_m N s v) fun (r : Int) =>
 (some (decide ((0 : Int) ≤ r))))
def k_slices_Contains_735_M (N : Nat) : Model := ⟨k_slices_Contains_735_arg, k_slices_Contains_735_ret, fun a => k_slices_Contains_735_m N a.1 a.2⟩
set_option maxRecDepth 1000000 in
theorem k_slices_Contains_735_ok (N : Nat) : ModelOk Try.prog 42 (k_slices_Contains_735_M N) :=
  modelOk_of (E := mkEnv [(59, k_slices_Index_484_M N)] [] []) (mkEnv_ok (fnsOk_cons (k_slices_Index_484_ok N) fnsOk_nil) _ _) Try.func42 (by kernel_rfl) rfl N k_slices_Contains_735_h (k_slices_Contains_735_M N) (by kernel_rfl) (by kernel_rfl) (fun a => by kernel_rfl)
/-! loop.example/fossick/impl.SetAnd -/
def i_SetAnd_arg : Sh := ⟨[.pv (.sl (.int .i64)), .pv (.sl (.int .i64))], []⟩
def i_SetAnd_ret : Sh := ⟨[.own 1 (.int .i64) 3 true], []⟩
def i_SetAnd_s1 : Sh := ⟨[.dead, .pv (.sl (.int .i64)), .dead, .dead, .dead, .own 600005 (.int .i64) 3 true, .dead, .dead, .dead, .dead, .dead, .dead, .dead, .dead, .dead, .dead, .dead, .dead, .pv (.sl (.int .i64)), .pv (.int .i64), .pv (.int .i64), .dead, .dead, .dead, .dead, .dead, .dead, .dead, .dead, .dead, .dead, .dead, .dead], []⟩
def i_SetAnd_h : Hint := (.seq .no (.seq .no (.seq .no (.seq (.seq .no (.block (.loop i_SetAnd_s1 .no))) .no))))
def i_SetAnd_m (N : Nat) (a : List Int) (b : List Int) : Option ((List Int)) :=
 (Option.bind (i_UpOk_m N a) fun (r : Bool) =>
 (bif (!r) then
 (some ([] : List Int))
 else
 (Option.bind (i_UpOk_m N b) fun (r2 : Bool) =>
 (bif (!r2) then
 (some ([] : List Int))
 else
 (iter (fun (go : ((List Int) × (List Int) × (List Int) × Int × Int) → Option ((List Int))) (g : (List Int) × (List Int) × (List Int) × Int × Int) =>
 match g with
 | (b2, out, t18, t19, t20) =>
 (bif (decide (t20 < t19)) then
 (Option.bind (idx t18 t20) fun (e : Int) =>
 (Option.bind (k_slices_Contains_735_m N b2 e) fun (r3 : Bool) =>
 (bif r3 then
 (if room out.length ([e] : List Int).length 8 then
 (if fits (t20 + 1) then (go (b2, (out ++ ([e] : List Int)), t18, t19, (t20 + 1))) else none)
 else none)
 else
 (if fits (t20 + 1) then (go (b2, out, t18, t19, (t20 + 1))) else none))))
 else
 (some out))) N (b, ([] : List Int), a, (a.length : Int), 0))))))
def i_SetAnd_M (N : Nat) : Model := ⟨i_SetAnd_arg, i_SetAnd_ret, fun a => i_SetAnd_m N a.1 a.2⟩
set_option maxRecDepth 1000000 in
theorem i_SetAnd_ok (N : Nat) : ModelOk Try.prog 26 (i_SetAnd_M N) :=
  modelOk_of (E := mkEnv [(16, i_UpOk_M N), (42, k_slices_Contains_735_M N)] [] []) (mkEnv_ok (fnsOk_cons (i_UpOk_ok N) (fnsOk_cons (k_slices_Contains_735_ok N) fnsOk_nil)) _ _) Try.func26 (by kernel_rfl) rfl N i_SetAnd_h (i_SetAnd_M N) (by kernel_rfl) (by kernel_rfl) (fun a => by kernel_rfl)
/-! loop.example/fossick/laws.FnKnotsHalf -/
def l_FnKnotsHalf_arg : Sh := ⟨[.pv (.sl (.int .u8)), .pv (.sl (.int .u8))], []⟩
def l_FnKnotsHalf_ret : Sh := ⟨[.pv .bool], []⟩
def l_FnKnotsHalf_h : Hint := .no
def l_FnKnotsHalf_m (N : Nat) (code : List Int) (more : List Int) : Option (Bool) :=
 (bif (decide ((1048576 : Int) < (code.length : Int))) then
 (some true)
 else
 (bif (decide ((1048576 : Int) < (more.length : Int))) then
 (some true)
 else
 (Option.bind (s_DrawKnotsFind_m N code) fun (r : (List ((Int × Int × Int) × Int × Int × Int × Int × Int)) × Int × Int × Int × Int) =>
 (Option.bind (i_KnotsFind_m N r.1 r.2.1 r.2.2.1 r.2.2.2.1 r.2.2.2.2) fun (r2 : (List Int) × Int) =>
 (Option.bind (s_KnotsFind_m N r.1 r.2.1 r.2.2.1 r.2.2.2.1 r.2.2.2.2) fun (r3 : (List Int) × Int) =>
 (bif (!decide (r2.2 = r3.2)) then
 (bif (decide (r2.2 = r3.2)) then
 (Option.bind (l_foInts_m N r2.1 r3.1) fun (r4 : Bool) =>
 (some r4))
 else
 (some false))
 else
 (Option.bind (l_foInts_m N r2.1 r3.1) fun (r5 : Bool) =>
 (bif (!r5) then
 (bif (decide (r2.2 = r3.2)) then
 (Option.bind (l_foInts_m N r2.1 r3.1) fun (r6 : Bool) =>
 (some r6))
 else
 (some false))
 else
 (bif (decide (r2.2 < 0)) then
 (bif (decide (r2.2 = r3.2)) then
 (Option.bind (l_foInts_m N r2.1 r3.1) fun (r7 : Bool) =>
 (some r7))
 else
 (some false))
 else
 (bif (decide (r.2.1 = r.2.2.1)) then
 (bif (decide (r2.2 = r3.2)) then
 (Option.bind (l_foInts_m N r2.1 r3.1) fun (r8 : Bool) =>
 (some r8))
 else
 (some false))
 else
 (if fits (r.2.2.1 - r.2.1) then (if (r.2.2.1 - r.2.1) ≠ 0 then
 (if fits (r.2.1 + ((more.length : Int).tmod (r.2.2.1 - r.2.1))) then (if fits ((r.2.1 + ((more.length : Int).tmod (r.2.2.1 - r.2.1))) + 1) then (Option.bind (i_KnotsFind_m N r.1 r.2.1 (r.2.1 + ((more.length : Int).tmod (r.2.2.1 - r.2.1))) r.2.2.2.1 r.2.2.2.2) fun (r9 : (List Int) × Int) =>
 (Option.bind (i_KnotsFind_m N r.1 ((r.2.1 + ((more.length : Int).tmod (r.2.2.1 - r.2.1))) + 1) r.2.2.1 r.2.2.2.1 r.2.2.2.2) fun (r10 : (List Int) × Int) =>
 (Option.bind (i_SetOr_m N r9.1 r10.1) fun (r11 : (List Int)) =>
 (Option.bind (l_foInts_m N r11 r2.1) fun (r12 : Bool) =>
 (bif r12 then
 (Option.bind (i_SetAnd_m N r9.1 r10.1) fun (r13 : (List Int)) =>
 (some (decide ((r13.length : Int) = 0))))
 else
 (some false)))))) else none) else none)
 else none) else none)))))))))))
def l_FnKnotsHalf_M (N : Nat) : Model := ⟨l_FnKnotsHalf_arg, l_FnKnotsHalf_ret, fun a => l_FnKnotsHalf_m N a.1 a.2⟩
set_option maxRecDepth 1000000 in
theorem l_FnKnotsHalf_ok (N : Nat) : ModelOk Try.prog 5 (l_FnKnotsHalf_M N) :=
  modelOk_of (E := mkEnv [(6, s_DrawKnotsFind_M N), (7, i_KnotsFind_M N), (8, s_KnotsFind_M N), (9, l_foInts_M N), (25, i_SetOr_M N), (26, i_SetAnd_M N)] [] []) (mkEnv_ok (fnsOk_cons (s_DrawKnotsFind_ok N) (fnsOk_cons (i_KnotsFind_ok N) (fnsOk_cons (s_KnotsFind_ok N) (fnsOk_cons (l_foInts_ok N) (fnsOk_cons (i_SetOr_ok N) (fnsOk_cons (i_SetAnd_ok N) fnsOk_nil)))))) _ _) Try.func5 (by kernel_rfl) rfl N l_FnKnotsHalf_h (l_FnKnotsHalf_M N) (by kernel_rfl) (by kernel_rfl) (fun a => by kernel_rfl)
end Go.Proofs.Ytlhkdngkjodgiaa
