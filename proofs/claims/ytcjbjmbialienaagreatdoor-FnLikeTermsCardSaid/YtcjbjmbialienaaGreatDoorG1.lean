import Derived.Test.YtcjbjmbialienaaGreatDoorG1A
set_option linter.unusedVariables false
set_option linter.unusedSimpArgs false
namespace Go.Proofs.YtcjbjmbialienaaGreatDoor
open Go.RowKit
def jmM : Sh := ⟨.mtk 800000 Y6 91 false :: .pv (.int .i64) :: .pv (.int .i64) :: .pv (.int .i64) :: .clo 104 [] :: dz 5 (.pv .bool :: .pv .bool :: dz 136 []), []⟩
def jnd : Sh := ⟨.mtk 800000 Y6 91 false :: .pv (.int .i64) :: .pv (.int .i64) :: .pv (.int .i64) :: .clo 104 [] :: dz 5 (.pv .bool :: .pv .bool :: .pv (.int .i64) :: .pv (.int .i64) :: dz 134 []), []⟩
def jmi : Sh := ⟨.mtk 800000 Y6 91 false :: .pv (.int .i64) :: .pv (.int .i64) :: .pv (.int .i64) :: .clo 104 [] :: dz 5 (.pv .bool :: .pv .bool :: .pv (.int .i64) :: .pv (.int .i64) :: .pv (.int .i64) :: dz 133 []), []⟩
def js7 : Sh := ⟨.mtk 800000 Y6 91 false :: .pv (.int .i64) :: .pv (.int .i64) :: .pv (.int .i64) :: .clo 104 [] :: dz 5 (.pv .bool :: .pv .bool :: .pv (.int .i64) :: dz 135 []), []⟩
def jK (N : Nat) : (D : Nat) → (List Z2) → Int → Int → Int → Unit → Option ((List Z2))
 | 0, _, _, _, _, _ => none
 | D + 1, data, a, b, limit, cmp =>
 (iter (fun go (g : (List Z2) × Int × Int × Int × Unit × Bool × Bool) =>
 match g with
 | (data2, a2, b2, limit2, cmp2, wasBalanced, wasPartitioned) =>
 (if fits (b2 - a2) then (bif (decide ((b2 - a2) ≤ 12)) then
 (Option.bind (jeC N data2 a2 b2 ()) fun r =>
 (some r))
 else
 (bif (decide (limit2 = 0)) then
 (Option.bind (jaC N data2 a2 b2 ()) fun r2 =>
 (some r2))
 else
 (meet (fun (g : (List Z2) × Int × Int × Int × Unit × Bool × Bool × Int) =>
 match g with
 | (data3, a3, b3, limit3, cmp3, wasBalanced2, wasPartitioned2, length) =>
 (Option.bind (jjM N data3 a3 b3 ()) fun r4 =>
 (meet (fun (g : (List Z2) × Int × Int × Int × Unit × Bool × Bool × Int × Int × Int) =>
 match g with
 | (data4, a4, b4, limit4, cmp4, wasBalanced3, wasPartitioned3, length2, pivot, hint) =>
 (meet (fun (g : (List Z2) × Int × Int × Int × Unit × Bool × Bool × Int × Int) =>
 match g with
 | (data5, a5, b5, limit5, cmp5, wasBalanced4, wasPartitioned4, length3, pivot2) =>
 (bif (decide ((0 : Int) < a5)) then
 (if fits (a5 - 1) then (if 0 ≤ (a5 - 1) ∧ (a5 - 1) < (data5.length : Int) then
 (Option.bind (data5[(a5 - 1).toNat]?) fun e =>
 (if 0 ≤ pivot2 ∧ pivot2 < (data5.length : Int) then
 (Option.bind (data5[pivot2.toNat]?) fun e2 =>
 (Option.bind (je N e.1 e.2.1 e.2.2 e2.1 e2.2.1 e2.2.2) fun r7 =>
 (bif (!(decide (r7 < 0))) then
 (Option.bind (jbG N data5 a5 b5 pivot2 ()) fun r8 =>
 (go (r8.2, r8.1, b5, limit5, (), wasBalanced4, wasPartitioned4)))
 else
 (Option.bind (jcT N data5 a5 b5 pivot2 ()) fun r9 =>
 (if fits (r9.1 - a5) then (if fits (b5 - r9.1) then (if 8 ≠ 0 then
 (if fits (length3.tdiv 8) then (bif (decide ((r9.1 - a5) < (b5 - r9.1))) then
 (Option.bind (jK N D r9.2.2 a5 r9.1 limit5 ()) fun r10 =>
 (if fits (r9.1 + 1) then (go (r10, (r9.1 + 1), b5, limit5, (), (decide ((length3.tdiv 8) ≤ (r9.1 - a5))), r9.2.1)) else none))
 else
 (if fits (r9.1 + 1) then (Option.bind (jK N D r9.2.2 (r9.1 + 1) b5 limit5 ()) fun r11 =>
 (go (r11, a5, r9.1, limit5, (), (decide ((length3.tdiv 8) ≤ (b5 - r9.1))), r9.2.1))) else none)) else none)
 else none) else none) else none)))))
 else none))
 else none) else none)
 else
 (Option.bind (jcT N data5 a5 b5 pivot2 ()) fun r12 =>
 (if fits (r12.1 - a5) then (if fits (b5 - r12.1) then (if 8 ≠ 0 then
 (if fits (length3.tdiv 8) then (bif (decide ((r12.1 - a5) < (b5 - r12.1))) then
 (Option.bind (jK N D r12.2.2 a5 r12.1 limit5 ()) fun r13 =>
 (if fits (r12.1 + 1) then (go (r13, (r12.1 + 1), b5, limit5, (), (decide ((length3.tdiv 8) ≤ (r12.1 - a5))), r12.2.1)) else none))
 else
 (if fits (r12.1 + 1) then (Option.bind (jK N D r12.2.2 (r12.1 + 1) b5 limit5 ()) fun r14 =>
 (go (r14, a5, r12.1, limit5, (), (decide ((length3.tdiv 8) ≤ (b5 - r12.1))), r12.2.1))) else none)) else none)
 else none) else none) else none)))) fun J3 =>
 (bif wasBalanced3 then
 (bif wasPartitioned3 then
 (bif (decide (hint = 1)) then
 (Option.bind (jhb N data4 a4 b4 ()) fun r6 =>
 (bif r6.1 then
 (some r6.2)
 else
 (J3 (r6.2, a4, b4, limit4, (), wasBalanced3, wasPartitioned3, length2, pivot))))
 else
 (J3 (data4, a4, b4, limit4, (), wasBalanced3, wasPartitioned3, length2, pivot)))
 else
 (J3 (data4, a4, b4, limit4, (), wasBalanced3, wasPartitioned3, length2, pivot)))
 else
 (J3 (data4, a4, b4, limit4, (), wasBalanced3, wasPartitioned3, length2, pivot))))) fun J2 =>
 (bif (decide (r4.2.1 = 2)) then
 (Option.bind (jeV N r4.2.2 a3 b3 ()) fun r5 =>
 (if fits (b3 - 1) then (if fits (r4.1 - a3) then (if fits ((b3 - 1) - (r4.1 - a3)) then (J2 (r5, a3, b3, limit3, (), wasBalanced2, wasPartitioned2, length, ((b3 - 1) - (r4.1 - a3)), 1)) else none) else none) else none))
 else
 (J2 (r4.2.2, a3, b3, limit3, (), wasBalanced2, wasPartitioned2, length, r4.1, r4.2.1)))))) fun J =>
 (bif (!wasBalanced) then
 (Option.bind (jez N data2 a2 b2 ()) fun r3 =>
 (if fits (limit2 - 1) then (J (r3, a2, b2, (limit2 - 1), (), wasBalanced, wasPartitioned, (b2 - a2))) else none))
 else
 (J (data2, a2, b2, limit2, (), wasBalanced, wasPartitioned, (b2 - a2))))))) else none)) N (data, a, b, limit, (), true, true))
def jcj (N D : Nat) : Model := ⟨⟨[.mtk 800000 Y6 91 false, .pv (.int .i64), .pv (.int .i64), .pv (.int .i64), .clo 104 []], []⟩, ⟨[.tup [], .mtk 800000 Y6 91 false], []⟩, fun a => jK N D a.1 a.2.1 a.2.2.1 a.2.2.2.1 a.2.2.2.2⟩
theorem jrm (N D : Nat) (ih : ModelOk Tryz.prog 162 (jcj N D)) : ModelOk Tryz.prog 162 (jcj N (D + 1)) :=
 mO (fC ih (fC (jqw N) (fC (jqz N) (fC (jlO N) (fC (joO N) (fC (jma N) (fC (jnw N) (fC (jaf N) (fC (jp1 N) (fC (jrO N) ja)))))))))) Tryz.func162 rfl N (.seq .no (.seq .no (.block (.loop jmM (.block (.seq .no (.seq .no (.seq .no (.meet js7 .no (.seq .no (.meet jmi .no (.meet jnd .no .no)))))))))))) (jcj N (D + 1)) (rs := [800000])
theorem jix (N : Nat) : ∀ D, ModelOk Tryz.prog 162 (jcj N D)
 | 0 => jcU ⟨_, Tryz.func162, by decide, by kernel_rfl⟩ _ (fun a => rfl)
 | D + 1 => jrm N D (jix N D)
def jaS (N : Nat) (x : List Z2) (cmp : Unit) : Option ((List Z2)) :=
 (Option.bind (k_math_bits_Len_m N (IntKind.u64.wrap (x.length : Int))) fun r =>
 (Option.bind (jK N N x 0 (x.length : Int) r ()) fun r2 =>
 (some r2)))
def jjA (N : Nat) : Model := ⟨⟨[.mtk 800000 Y6 91 false, .clo 104 []], []⟩, ⟨[.tup [], .mtk 800000 Y6 91 false], []⟩, fun a => jaS N a.1 a.2⟩
theorem jtu (N : Nat) : ModelOk Tryz.prog 103 (jjA N) :=
 mO (fC (jda N) (fC (jix N N) ja)) Tryz.func103 rfl N .no (jjA N) (rs := [800000])
def jmK : Sh := ⟨.dead :: .dead :: .box 2 0 :: .dead :: .box 4 0 :: .box 5 0 :: dz 19 (.pv Y3 :: .pv (.int .i64) :: .pv (.int .i64) :: dz 32 []), [(2, false, [.pv (.sl .str), .pv Y14]), (4, false, [.nils, .nils]), (5, false, [.pv Y3, .tre 700501 Y6 91])]⟩
def jor : Sh := ⟨.dead :: .dead :: .box 2 0 :: .dead :: .box 4 0 :: .box 5 0 :: .dead :: .box 7 0 :: dz 17 (.pv Y3 :: .pv (.int .i64) :: .pv (.int .i64) :: dz 4 (.pv Y16 :: .pv (.int .i64) :: .pv (.int .i64) :: dz 25 [])), [(2, false, [.pv (.sl .str), .pv Y14]), (4, false, [.nils, .nils]), (5, false, [.pv Y3, .tre 700501 Y6 91]), (7, false, [.pv (.int .i64), .pv Y16, .pv Y13])]⟩
def jnj : Sh := ⟨.dead :: .dead :: .box 2 0 :: .dead :: .box 4 0 :: .box 5 0 :: .dead :: .box 7 0 :: .dead :: .box 9 0 :: dz 15 (.pv Y3 :: .pv (.int .i64) :: .pv (.int .i64) :: dz 4 (.pv Y16 :: .pv (.int .i64) :: .pv (.int .i64) :: dz 6 (.own 600041 Y15 146 true :: .pv (.int .i64) :: .pv (.int .i64) :: dz 16 []))), [(2, false, [.pv (.sl .str), .pv Y14]), (4, false, [.nils, .nils]), (5, false, [.pv Y3, .tre 700501 Y6 91]), (7, false, [.pv (.int .i64), .pv Y16, .pv Y13]), (9, false, [.pv .str, .pv .str])]⟩
def jbT (N : Nat) (c : List Z0) (c2 : List Z6) (docs : List Z3) : Option ((List Z3) × (List Z2)) :=
 (Option.bind (jaj N c c2) fun r =>
 (bif (!r) then
 (some (([] : List Z3), ([] : List Z2)))
 else
 (Option.bind (jbf N docs) fun r2 =>
 (bif (!r2) then
 (some (([] : List Z3), ([] : List Z2)))
 else
 (Option.bind (jbV N docs) fun r3 =>
 (iter (fun go (g : (List Z3) × Int × Int × (List Z0) × (List Z6) × (List Z3) × (List Z2)) =>
 match g with
 | (t25, t26, t27, c3, c4, s, s2) =>
 (bif (decide (t27 < t26)) then
 (Option.bind (idx t25 t27) fun e =>
 (iter (fun go2 (g : (List Z3) × Int × Int × Z19 × Int × Int × (List Z0) × (List Z6) × (List Z3) × (List Z2) × Int × Z19 × Z11) =>
 match g with
 | (t252, t262, t272, t32, t33, t34, c5, c6, s3, s4, d, d2, d3) =>
 (bif (decide (t34 < t33)) then
 (Option.bind (idx t32 t34) fun e2 =>
 (Option.bind (jbw N c5 c6 e2.2) fun r4 =>
 (iter (fun go3 (g : (List Z3) × Int × Int × Z19 × Int × Int × Z11 × Int × Int × (List Z0) × (List Z6) × (List Z3) × (List Z2) × Int × Z19 × Z11 × Z0 × Z0) =>
 match g with
 | (t253, t263, t273, t322, t332, t342, t41, t42, t43, c7, c8, s5, s6, d4, d5, d6, f, f2) =>
 (bif (decide (t43 < t42)) then
 (Option.bind (idx t41 t43) fun e3 =>
 (Option.bind (jbI N f e3.1 e3.2 d4 s5 s6) fun r5 =>
 (if fits (t43 + 1) then (go3 (t253, t263, t273, t322, t332, t342, t41, t42, (t43 + 1), c7, c8, r5.1, r5.2, d4, d5, d6, f, f2)) else none)))
 else
 (if fits (t342 + 1) then (go2 (t253, t263, t273, t322, t332, (t342 + 1), c7, c8, s5, s6, d4, d5, d6)) else none))) N (t252, t262, t272, t32, t33, t34, r4, (r4.length : Int), 0, c5, c6, s3, s4, d, d2, d3, e2.1, e2.2))))
 else
 (if fits (t272 + 1) then (go (t252, t262, (t272 + 1), c5, c6, s3, s4)) else none))) N (t25, t26, t27, e.2.1, (e.2.1.length : Int), 0, c3, c4, s, s2, e.1, e.2.1, e.2.2)))
 else
 (Option.bind (jaS N s2 ()) fun r6 =>
 (some (s, r6))))) N (docs, (docs.length : Int), 0, c, c2, r3, ([] : List Z2))))))))
def jj2 (N : Nat) : Model := ⟨⟨[.agg [.pv (.sl .str), .pv Y14], .pv Y3], []⟩, ⟨[.agg [.pv Y3, .own 1 Y6 91 false]], []⟩, fun a => jbT N a.1 a.2.1 a.2.2⟩
theorem jqC (N : Nat) : ModelOk Tryz.prog 53 (jj2 N) :=
 mO (fC (jdX N) (fC (jjU N) (fC (joC N) (fC (jgO N) (fC (jky N) (fC (jtu N) ja)))))) Tryz.func53 rfl N (.seq .no (.seq .no (.seq .no (.seq (.seq .no (.block (.loop jmK (.seq .no (.seq .no (.seq (.block (.seq .no (.seq .no (.block (.loop jor (.seq .no (.seq .no (.seq (.block (.seq .no (.seq .no (.block (.loop jnj .no))))) .no)))))))) .no)))))) .no)))) (jj2 N) (wr := [23]) (dw := [23, 57])
def jtB : Sh := ⟨.pv Y19 :: .pv Y19 :: dz 10 (.pv (.int .i64) :: .pv (.int .i64) :: dz 12 []), []⟩
def jbX (N : Nat) (s1 : List Int) (s2 : List Int) : Z13 :=
 (bif (!decide ((s1.length : Int) = (s2.length : Int))) then
 (some false)
 else
 (iter (fun go (g : (List Int) × (List Int) × Int × Int) =>
 match g with
 | (s12, s22, t12, t13) =>
 (bif (decide (t13 < t12)) then
 (Option.bind (idx s12 t13) fun e =>
 (Option.bind (idx s22 t13) fun e2 =>
 (bif (!decide (e = e2)) then
 (some false)
 else
 (if fits (t13 + 1) then (go (s12, s22, t12, (t13 + 1))) else none))))
 else
 (some true))) N (s1, s2, (s1.length : Int), 0)))
def jg4 (N : Nat) : Model := ⟨⟨[.pv Y19, .pv Y19], []⟩, ⟨[.pv .bool], []⟩, fun a => jbX N a.1 a.2⟩
theorem jqi (N : Nat) : ModelOk Tryz.prog 163 (jg4 N) :=
 mO ja Tryz.func163 rfl N (.seq .no (.seq .no (.seq (.seq .no (.block (.loop jtB .no))) .no))) (jg4 N)
def jcp (N : Nat) (a : Int) (a2 : List Int) (b : Int) (b2 : List Int) : Z13 :=
 (bif (decide (a = b)) then
 (Option.bind (jbX N a2 b2) fun r =>
 (some r))
 else
 (some false))
def jjO (N : Nat) : Model := ⟨⟨[.agg [.pv (.int .i64), .pv Y19], .agg [.pv (.int .i64), .pv Y19]], []⟩, ⟨[.pv .bool], []⟩, fun a => jcp N a.1 a.2.1 a.2.2.1 a.2.2.2⟩
theorem jth (N : Nat) : ModelOk Tryz.prog 106 (jjO N) :=
 mO (fC (jqi N) ja) Tryz.func106 rfl N .no (jjO N)
def jlX : Sh := ⟨.dead :: .pv Y11 :: .clo 106 [] :: dz 12 (.pv Y11 :: .pv (.int .i64) :: .pv (.int .i64) :: dz 14 []), []⟩
def jb6 (N : Nat) (s1 : Z5) (s2 : Z5) (eq : Unit) : Z13 :=
 (bif (!decide ((s1.length : Int) = (s2.length : Int))) then
 (some false)
 else
 (iter (fun go (g : Z12 × Unit × Z12 × Int × Int) =>
 match g with
 | (s22, eq2, t15, t16, t17) =>
 (bif (decide (t17 < t16)) then
 (Option.bind (idx t15 t17) fun e =>
 (Option.bind (idx s22 t17) fun e2 =>
 (Option.bind (jcp N e.1 e.2 e2.1 e2.2) fun r =>
 (bif (!r) then
 (some false)
 else
 (if fits (t17 + 1) then (go (s22, (), t15, t16, (t17 + 1))) else none)))))
 else
 (some true))) N (s2, (), s1, (s1.length : Int), 0)))
def jgG (N : Nat) : Model := ⟨⟨[.pv Y11, .pv Y11, .clo 106 []], []⟩, ⟨[.pv .bool], []⟩, fun a => jb6 N a.1 a.2.1 a.2.2⟩
theorem jnG (N : Nat) : ModelOk Tryz.prog 105 (jgG N) :=
 mO (fC (jth N) ja) Tryz.func105 rfl N (.seq .no (.seq .no (.seq (.seq .no (.block (.loop jlX .no))) .no))) (jgG N)
def jcz (N : Nat) (a : List UInt8) (a2 : List UInt8) (a3 : Z5) (b : List UInt8) (b2 : List UInt8) (b3 : Z5) : Z13 :=
 (bif (decide (a = b)) then
 (bif (decide (a2 = b2)) then
 (Option.bind (jb6 N a3 b3 ()) fun r =>
 (some r))
 else
 (some false))
 else
 (some false))
def jeL (N : Nat) : Model := ⟨⟨[.agg [.pv .str, .pv .str, .pv Y11], .agg [.pv .str, .pv .str, .pv Y11]], []⟩, ⟨[.pv .bool], []⟩, fun a => jcz N a.1 a.2.1 a.2.2.1 a.2.2.2.1 a.2.2.2.2.1 a.2.2.2.2.2⟩
theorem jp4 (N : Nat) : ModelOk Tryz.prog 54 (jeL N) :=
 mO (fC (jnG N) ja) Tryz.func54 rfl N .no (jeL N)
def jlD : Sh := ⟨.dead :: .pv Y5 :: .clo 54 [] :: dz 12 (.pv Y5 :: .pv (.int .i64) :: .pv (.int .i64) :: dz 14 []), []⟩
def jcn (N : Nat) (s1 : List Z2) (s2 : List Z2) (eq : Unit) : Z13 :=
 (bif (!decide ((s1.length : Int) = (s2.length : Int))) then
 (some false)
 else
 (iter (fun go (g : (List Z2) × Unit × (List Z2) × Int × Int) =>
 match g with
 | (s22, eq2, t15, t16, t17) =>
 (bif (decide (t17 < t16)) then
 (Option.bind (idx t15 t17) fun e =>
 (Option.bind (idx s22 t17) fun e2 =>
 (Option.bind (jcz N e.1 e.2.1 e.2.2 e2.1 e2.2.1 e2.2.2) fun r =>
 (bif (!r) then
 (some false)
 else
 (if fits (t17 + 1) then (go (s22, (), t15, t16, (t17 + 1))) else none)))))
 else
 (some true))) N (s2, (), s1, (s1.length : Int), 0)))
def ji7 (N : Nat) : Model := ⟨⟨[.pv Y5, .pv Y5, .clo 54 []], []⟩, ⟨[.pv .bool], []⟩, fun a => jcn N a.1 a.2.1 a.2.2⟩
theorem jsa (N : Nat) : ModelOk Tryz.prog 52 (ji7 N) :=
 mO (fC (jp4 N) ja) Tryz.func52 rfl N (.seq .no (.seq .no (.seq (.seq .no (.block (.loop jlD .no))) .no))) (ji7 N)
def jbN (N : Nat) (c : List Z0) (c2 : List Z6) (s : List Z3) (s2 : List Z2) : Z13 :=
 (Option.bind (jaj N c c2) fun r =>
 (bif (!r) then
 (some false)
 else
 (Option.bind (jbf N s) fun r2 =>
 (bif (!r2) then
 (some false)
 else
 (Option.bind (jbT N c c2 s) fun r3 =>
 (Option.bind (jcn N r3.2 s2 ()) fun r4 =>
 (some r4)))))))
def jfN (N : Nat) : Model := ⟨⟨[.agg [.pv (.sl .str), .pv Y14], .agg [.pv Y3, .pv Y5]], []⟩, ⟨[.pv .bool], []⟩, fun a => jbN N a.1 a.2.1 a.2.2.1 a.2.2.2⟩
theorem joa (N : Nat) : ModelOk Tryz.prog 11 (jfN N) :=
 mO (fC (jdX N) (fC (jjU N) (fC (jqC N) (fC (jsa N) ja)))) Tryz.func11 rfl N .no (jfN N)
def jtE : Sh := ⟨.dead :: .pv .str :: dz 3 (.own 600005 .str 9 true :: dz 6 (.pv Y5 :: .pv (.int .i64) :: .pv (.int .i64) :: dz 14 [])), []⟩
def i_Seg_terms_m (N : Nat) (s : (List Z3) × (List Z2)) (field : List UInt8) : Z15 :=
 (iter (fun go (g : Z0 × (List Z0) × (List Z2) × Int × Int) =>
 match g with
 | (field2, out, t12, t13, t14) =>
 (bif (decide (t14 < t13)) then
 (Option.bind (idx t12 t14) fun e =>
 (bif (decide (e.1 = field2)) then
 (if room out.length ([e.2.1] : List Z0).length 16 then
 (if fits (t14 + 1) then (go (field2, (out ++ ([e.2.1] : List Z0)), t12, t13, (t14 + 1))) else none)
 else none)
 else
 (if fits (t14 + 1) then (go (field2, out, t12, t13, (t14 + 1))) else none)))
 else
 (some out))) N (field, ([] : List Z0), s.2, (s.2.length : Int), 0))
def jgl (N : Nat) : Model := ⟨⟨[.ptr Y2, .pv .str], []⟩, ⟨[.own 1 .str 9 true], []⟩, fun a => i_Seg_terms_m N a.1 a.2⟩
theorem jln (N : Nat) : ModelOk Tryz.prog 40 (jgl N) :=
 mO ja Tryz.func40 rfl N (.seq .no (.seq .no (.seq (.seq .no (.block (.loop jtE .no))) .no))) (jgl N)
def jnu : Sh := ⟨.dead :: .pv .str :: .pv .str :: dz 9 (.pv Y5 :: .pv (.int .i64) :: .pv (.int .i64) :: dz 16 []), []⟩
def i_Seg_posts_m (N : Nat) (s : (List Z3) × (List Z2)) (field : List UInt8) (term : List UInt8) : Option (Z12) :=
 (iter (fun go (g : Z0 × Z0 × (List Z2) × Int × Int) =>
 match g with
 | (field2, term2, t12, t13, t14) =>
 (bif (decide (t14 < t13)) then
 (Option.bind (idx t12 t14) fun e =>
 (bif (decide (e.1 = field2)) then
 (bif (decide (e.2.1 = term2)) then
 (some e.2.2)
 else
 (if fits (t14 + 1) then (go (field2, term2, t12, t13, (t14 + 1))) else none))
 else
 (if fits (t14 + 1) then (go (field2, term2, t12, t13, (t14 + 1))) else none)))
 else
 (some ([] : Z5)))) N (field, term, s.2, (s.2.length : Int), 0))
def jeG (N : Nat) : Model := ⟨⟨[.ptr Y2, .pv .str, .pv .str], []⟩, ⟨[.pv Y11], []⟩, fun a => i_Seg_posts_m N a.1 a.2.1 a.2.2⟩
theorem jcq (N : Nat) : ModelOk Tryz.prog 85 (jeG N) :=
 mO ja Tryz.func85 rfl N (.seq .no (.seq (.seq .no (.block (.loop jnu .no))) .no)) (jeG N)
def jni : Sh := ⟨dz 3 (.pv (.int .i64) :: dz 12 (.pv Y11 :: .pv (.int .i64) :: .pv (.int .i64) :: dz 10 [])), []⟩
def i_scorer_places_m (N : Nat) (x : ((List Z0) × (List Z6)) × (List Z3) × (List Z2)) (field : List UInt8) (term : List UInt8) (id : Int) : Option ((List Int)) :=
 (Option.bind (i_Seg_posts_m N x.2 field term) fun r =>
 (iter (fun go (g : Int × Z12 × Int × Int) =>
 match g with
 | (id2, t16, t17, t18) =>
 (bif (decide (t18 < t17)) then
 (Option.bind (idx t16 t18) fun e =>
 (bif (decide (e.1 = id2)) then
 (some e.2)
 else
 (if fits (t18 + 1) then (go (id2, t16, t17, (t18 + 1))) else none)))
 else
 (some ([] : List Int)))) N (id, r, (r.length : Int), 0)))
def jiU (N : Nat) : Model := ⟨⟨[.ptr (.pair (.pair (.sl .str) Y14) Y2), .pv .str, .pv .str, .pv (.int .i64)], []⟩, ⟨[.pv Y19], []⟩, fun a => i_scorer_places_m N a.1 a.2.1 a.2.2.1 a.2.2.2⟩
theorem jrB (N : Nat) : ModelOk Tryz.prog 83 (jiU N) :=
 mO (fC (jcq N) ja) Tryz.func83 rfl N (.seq .no (.seq (.seq .no (.block (.loop jni .no))) .no)) (jiU N)
def jqv : Sh := ⟨.dead :: .pv (.int .i64) :: .dead :: .dead :: .box 4 0 :: dz 6 (.pv Y3 :: .pv (.int .i64) :: .pv (.int .i64) :: dz 10 []), [(4, false, [.pv (.int .i64), .nils, .nils])]⟩
def i_Seg_doc_m (N : Nat) (s : (List Z3) × (List Z2)) (id : Int) : Option (Int × Z19 × Z11 × Bool) :=
 (iter (fun go (g : Int × (List Z3) × Int × Int × Int) =>
 match g with
 | (id2, t11, t12, t13, b) =>
 (bif (decide (t13 < t12)) then
 (Option.bind (idx t11 t13) fun e =>
 (bif (decide (e.1 = id2)) then
 (some (e.1, e.2.1, e.2.2, true))
 else
 (if fits (t13 + 1) then (go (id2, t11, t12, (t13 + 1), b)) else none)))
 else
 (some (0, ([] : Z18), ([] : Z8), false)))) N (id, s.1, (s.1.length : Int), 0, 0))
def jiV (N : Nat) : Model := ⟨⟨[.ptr Y2, .pv (.int .i64)], []⟩, ⟨[.tup [.agg [.pv (.int .i64), .pv Y16, .pv Y13], .pv .bool]], []⟩, fun a => i_Seg_doc_m N a.1 a.2⟩
theorem jlU (N : Nat) : ModelOk Tryz.prog 127 (jiV N) :=
 mO ja Tryz.func127 rfl N (.seq .no (.seq (.seq .no (.block (.loop jqv .no))) .no)) (jiV N)
def jmV : Sh := ⟨.dead :: .pv .str :: dz 8 (.pv Y16 :: .pv (.int .i64) :: .pv (.int .i64) :: dz 10 []), []⟩
def i_DocField_m (N : Nat) (d : Int) (d2 : Z18) (d3 : Z8) (name : List UInt8) : Option (Z0) :=
 (Option.bind (jbx N d d2 d3) fun r =>
 (bif r then
 (iter (fun go (g : Z0 × Z19 × Int × Int) =>
 match g with
 | (name2, t10, t11, t12) =>
 (bif (decide (t12 < t11)) then
 (Option.bind (idx t10 t12) fun e =>
 (bif (decide (e.1 = name2)) then
 (some e.2)
 else
 (if fits (t12 + 1) then (go (name2, t10, t11, (t12 + 1))) else none)))
 else
 (some ([] : List UInt8)))) N (name, d2, (d2.length : Int), 0))
 else
 (some ([] : List UInt8))))
def jhl (N : Nat) : Model := ⟨⟨[.agg [.pv (.int .i64), .pv Y16, .pv Y13], .pv .str], []⟩, ⟨[.pv .str], []⟩, fun a => i_DocField_m N a.1 a.2.1 a.2.2.1 a.2.2.2⟩
theorem jqd (N : Nat) : ModelOk Tryz.prog 128 (jhl N) :=
 mO (fC (jh0 N) ja) Tryz.func128 rfl N (.seq .no (.seq (.seq .no (.cond (.seq .no (.block (.loop jmV .no))) .no)) .no)) (jhl N)
def i_Seg_long_m (N : Nat) (s : (List Z3) × (List Z2)) (c : List Z0) (c2 : List Z6) (field : List UInt8) (id : Int) : Z20 :=
 (Option.bind (i_Seg_doc_m N s id) fun r =>
 (bif (!r.2.2.2) then
 (some 0)
 else
 (Option.bind (i_DocField_m N r.1 r.2.1 r.2.2.1 field) fun r2 =>
 (Option.bind (jbw N c c2 r2) fun r3 =>
 (some (r3.length : Int))))))
def jgU (N : Nat) : Model := ⟨⟨[.ptr Y2, .agg [.pv (.sl .str), .pv Y14], .pv .str, .pv (.int .i64)], []⟩, ⟨[.pv (.int .i64)], []⟩, fun a => i_Seg_long_m N a.1 a.2.1 a.2.2.1 a.2.2.2.1 a.2.2.2.2⟩
theorem jhs (N : Nat) : ModelOk Tryz.prog 84 (jgU N) :=
 mO (fC (jlU N) (fC (jqd N) (fC (jgO N) ja))) Tryz.func84 rfl N .no (jgU N)
def joq : Sh := ⟨.pv (.int .i64) :: .pv (.int .i64) :: dz 13 [], []⟩
def ja2 (N : Nat) (a : Int) (b : Int) : Z20 :=
 (iter (fun go (g : Int × Int) =>
 match g with
 | (a2, b2) =>
 (bif (!decide (b2 = 0)) then
 (if b2 ≠ 0 then
 (go (b2, (a2.tmod b2)))
 else none)
 else
 (if fits (0 - a2) then (some (if (0 - a2) > a2 then (0 - a2) else a2)) else none))) N (a, b))
def jiB (N : Nat) : Model := ⟨⟨[.pv (.int .i64), .pv (.int .i64)], []⟩, ⟨[.pv (.int .i64)], []⟩, fun a => ja2 N a.1 a.2⟩
theorem jiQ (N : Nat) : ModelOk Tryz.prog 165 (jiB N) :=
 mO ja Tryz.func165 rfl N (.seq .no (.seq (.block (.loop joq .no)) .no)) (jiB N)
def jbk (N : Nat) (r : Int) (r2 : Int) : Z13 :=
 (Option.bind (jm N r (-1000000000) 1000000000) fun r3 =>
 (bif r3 then
 (Option.bind (jm N r2 1 1000000000) fun r4 =>
 (bif r4 then
 (Option.bind (ja2 N r r2) fun r5 =>
 (some (decide (r5 = 1))))
 else
 (some false)))
 else
 (some false)))
def jeJ (N : Nat) : Model := ⟨⟨[.agg [.pv (.int .i64), .pv (.int .i64)]], []⟩, ⟨[.pv .bool], []⟩, fun a => jbk N a.1 a.2⟩
theorem jhS (N : Nat) : ModelOk Tryz.prog 108 (jeJ N) :=
 mO (fC (jY N) (fC (jiQ N) ja)) Tryz.func108 rfl N .no (jeJ N)
def jk5 : Sh := ⟨.pv (.int .i64) :: .pv (.int .i64) :: .dead :: .dead :: .box 4 0 :: dz 24 [], [(4, false, [.pv (.int .i64), .pv (.int .i64)])]⟩
def jcl (N : Nat) (up : Int) (down : Int) : Option (Int × Int × Bool) :=
 (meet (fun (g : Int × Int × Int × Int) =>
 match g with
 | (up2, down2, b, b2) =>
 (Option.bind (ja2 N up2 down2) fun r =>
 (if r ≠ 0 then
 (if fits (up2.tdiv r) then (if r ≠ 0 then
 (if fits (down2.tdiv r) then (Option.bind (jbk N (up2.tdiv r) (down2.tdiv r)) fun r2 =>
 (bif (!r2) then
 (some (0, 1, false))
 else
 (some ((up2.tdiv r), (down2.tdiv r), true)))) else none)
 else none) else none)
 else none))) fun J =>
 (bif (decide (down < 0)) then
 (if fits (0 - up) then (if fits (0 - down) then (J ((0 - up), (0 - down), 0, 0)) else none) else none)
 else
 (J (up, down, 0, 0))))
def jeP (N : Nat) : Model := ⟨⟨[.pv (.int .i64), .pv (.int .i64)], []⟩, ⟨[.tup [.agg [.pv (.int .i64), .pv (.int .i64)], .pv .bool]], []⟩, fun a => jcl N a.1 a.2⟩
theorem jlG (N : Nat) : ModelOk Tryz.prog 164 (jeP N) :=
 mO (fC (jiQ N) (fC (jhS N) ja)) Tryz.func164 rfl N (.seq .no (.meet jk5 .no .no)) (jeP N)
def jb7 (N : Nat) (a : Int) (b : Int) : Option (Int × Int × Bool) :=
 (Option.bind (jm N a (-1000000000) 1000000000) fun r =>
 (bif (!r) then
 (some (0, 1, false))
 else
 (Option.bind (jm N b (-1000000000) 1000000000) fun r2 =>
 (bif (!r2) then
 (some (0, 1, false))
 else
 (bif (decide (b = 0)) then
 (some (0, 1, false))
 else
 (Option.bind (jcl N a b) fun r3 =>
 (some (r3.1, r3.2.1, r3.2.2))))))))
def jgY (N : Nat) : Model := ⟨⟨[.pv (.int .i64), .pv (.int .i64)], []⟩, ⟨[.tup [.agg [.pv (.int .i64), .pv (.int .i64)], .pv .bool]], []⟩, fun a => jb7 N a.1 a.2⟩
theorem jpX (N : Nat) : ModelOk Tryz.prog 107 (jgY N) :=
 mO (fC (jY N) (fC (jlG N) ja)) Tryz.func107 rfl N .no (jgY N)
def jtO : Sh := ⟨.pv (.int .i64) :: .pv (.int .i64) :: .pv (.int .i64) :: .pv (.int .i64) :: .pv (.int .i64) :: dz 5 (.box 10 0 :: .dead :: .pv (.int .i64) :: dz 53 []), [(10, false, [.pv (.int .i64), .pv (.int .i64)])]⟩
def i_TermScore_m (N : Nat) (tf : Int) (long : Int) (total : Int) (docs : Int) (df : Int) : Option (Int × Int × Bool) :=
 (Option.bind (jm N tf 1 80) fun r =>
 (bif (!r) then
 (some (0, 1, false))
 else
 (Option.bind (jm N long tf 80) fun r2 =>
 (bif (!r2) then
 (some (0, 1, false))
 else
 (Option.bind (jm N docs 1 16) fun r3 =>
 (bif (!r3) then
 (some (0, 1, false))
 else
 (Option.bind (jm N df 1 docs) fun r4 =>
 (bif (!r4) then
 (some (0, 1, false))
 else
 (Option.bind (jm N total long 1280) fun r5 =>
 (bif (!r5) then
 (some (0, 1, false))
 else
 (iter (fun go (g : Int × Int × Int × Int × Int × Int × Int × Int) =>
 match g with
 | (tf2, long2, total2, docs2, df2, l, b, b2) =>
 (if fits (l + 1) then (if 0 ≤ (l + 1) then
 (if fits (df2 * 2 ^ (min (l + 1).toNat (IntKind.bits .i64))) then (bif (decide ((df2 * 2 ^ (min (l + 1).toNat (IntKind.bits .i64))) ≤ docs2)) then
 (if fits (l + 1) then (go (tf2, long2, total2, docs2, df2, (l + 1), b, b2)) else none)
 else
 (if fits (22 * tf2) then (if fits (l + 1) then (if fits ((22 * tf2) * (l + 1)) then (if fits (10 * tf2) then (if fits ((10 * tf2) + 3) then (if fits (9 * long2) then (if fits ((9 * long2) * docs2) then (if total2 ≠ 0 then
 (if fits (((9 * long2) * docs2).tdiv total2) then (if fits (((10 * tf2) + 3) + (((9 * long2) * docs2).tdiv total2)) then (Option.bind (jb7 N ((22 * tf2) * (l + 1)) (((10 * tf2) + 3) + (((9 * long2) * docs2).tdiv total2))) fun r6 =>
 (some (r6.1, r6.2.1, r6.2.2))) else none) else none)
 else none) else none) else none) else none) else none) else none) else none) else none)) else none)
 else none) else none)) N (tf, long, total, docs, df, 0, 0, 0))))))))))))
def jeM (N : Nat) : Model := ⟨⟨[.pv (.int .i64), .pv (.int .i64), .pv (.int .i64), .pv (.int .i64), .pv (.int .i64)], []⟩, ⟨[.tup [.agg [.pv (.int .i64), .pv (.int .i64)], .pv .bool]], []⟩, fun a => i_TermScore_m N a.1 a.2.1 a.2.2.1 a.2.2.2.1 a.2.2.2.2⟩
theorem jgE (N : Nat) : ModelOk Tryz.prog 58 (jeM N) :=
 mO (fC (jY N) (fC (jpX N) ja)) Tryz.func58 rfl N (.seq .no (.seq .no (.seq .no (.seq (.block (.loop jtO .no)) .no)))) (jeM N)
def i_RatFloor_m (N : Nat) (r : Int) (r2 : Int) (times : Int) : Z20 :=
 (Option.bind (jbk N r r2) fun r3 =>
 (bif (!r3) then
 (some 0)
 else
 (Option.bind (jm N times 1 1000) fun r4 =>
 (bif (!r4) then
 (some 0)
 else
 (if fits (r * times) then (bif (decide ((0 : Int) ≤ (r * times))) then
 (if r2 ≠ 0 then
 (if fits ((r * times).tdiv r2) then (some ((r * times).tdiv r2)) else none)
 else none)
 else
 (if fits (0 - (r * times)) then (if fits ((0 - (r * times)) + r2) then (if fits (((0 - (r * times)) + r2) - 1) then (if r2 ≠ 0 then
 (if fits ((((0 - (r * times)) + r2) - 1).tdiv r2) then (if fits (0 - ((((0 - (r * times)) + r2) - 1).tdiv r2)) then (some (0 - ((((0 - (r * times)) + r2) - 1).tdiv r2))) else none) else none)
 else none) else none) else none) else none)) else none)))))
def jfC (N : Nat) : Model := ⟨⟨[.agg [.pv (.int .i64), .pv (.int .i64)], .pv (.int .i64)], []⟩, ⟨[.pv (.int .i64)], []⟩, fun a => i_RatFloor_m N a.1 a.2.1 a.2.2⟩
theorem jiY (N : Nat) : ModelOk Tryz.prog 59 (jfC N) :=
 mO (fC (jhS N) (fC (jY N) ja)) Tryz.func59 rfl N .no (jfC N)
def jlZ : Sh := ⟨.ptr (.pair (.pair (.sl .str) Y14) Y2) :: .pv .str :: .pv .str :: .pv (.int .i64) :: dz 5 (.pv Y19 :: .pv (.int .i64) :: dz 16 (.pv Y3 :: .pv (.int .i64) :: .pv (.int .i64) :: dz 49 [])), []⟩
def i_scorer_points_m (N : Nat) (x : ((List Z0) × (List Z6)) × (List Z3) × (List Z2)) (field : List UInt8) (term : List UInt8) (id : Int) : Z20 :=
 (Option.bind (i_scorer_places_m N x field term id) fun r =>
 (bif (decide ((r.length : Int) = 0)) then
 (some 0)
 else
 (iter (fun go (g : (((List Z0) × (List Z6)) × (List Z3) × (List Z2)) × Z0 × Z0 × Int × (List Int) × Int × (List Z3) × Int × Int) =>
 match g with
 | (x2, field2, term2, id2, at0, total, t27, t28, t29) =>
 (bif (decide (t29 < t28)) then
 (Option.bind (idx t27 t29) fun e =>
 (Option.bind (i_Seg_long_m N x2.2 x2.1.1 x2.1.2 field2 e.1) fun r2 =>
 (if fits (total + r2) then (if fits (t29 + 1) then (go (x2, field2, term2, id2, at0, (total + r2), t27, t28, (t29 + 1))) else none) else none)))
 else
 (Option.bind (i_Seg_long_m N x2.2 x2.1.1 x2.1.2 field2 id2) fun r3 =>
 (Option.bind (i_Seg_posts_m N x2.2 field2 term2) fun r4 =>
 (Option.bind (i_TermScore_m N (at0.length : Int) r3 total (x2.2.1.length : Int) (r4.length : Int)) fun r5 =>
 (Option.bind (i_RatFloor_m N r5.1 r5.2.1 1000) fun r6 =>
 (some r6))))))) N (x, field, term, id, r, 0, x.2.1, (x.2.1.length : Int), 0))))
def jh7 (N : Nat) : Model := ⟨⟨[.ptr (.pair (.pair (.sl .str) Y14) Y2), .pv .str, .pv .str, .pv (.int .i64)], []⟩, ⟨[.pv (.int .i64)], []⟩, fun a => i_scorer_points_m N a.1 a.2.1 a.2.2.1 a.2.2.2⟩
theorem jsD (N : Nat) : ModelOk Tryz.prog 41 (jh7 N) :=
 mO (fC (jrB N) (fC (jhs N) (fC (jcq N) (fC (jgE N) (fC (jiY N) ja))))) Tryz.func41 rfl N (.seq .no (.seq .no (.seq .no (.seq .no (.seq (.seq .no (.block (.loop jlZ .no))) .no))))) (jh7 N)
def jrJ : Sh := ⟨dz 3 (.pv (.int .i64) :: dz 12 (.pv Y11 :: .pv (.int .i64) :: .pv (.int .i64) :: dz 10 [])), []⟩
def i_scorer_places_v2_m (N : Nat) (x : Option Z1) (field : List UInt8) (term : List UInt8) (id : Int) : Option ((List Int)) :=
 (Option.bind x fun p =>
 (Option.bind (i_Seg_posts_m N p.2.2 field term) fun r =>
 (iter (fun go (g : Int × Z12 × Int × Int) =>
 match g with
 | (id2, t16, t17, t18) =>
 (bif (decide (t18 < t17)) then
 (Option.bind (idx t16 t18) fun e =>
 (bif (decide (e.1 = id2)) then
 (some e.2)
 else
 (if fits (t18 + 1) then (go (id2, t16, t17, (t18 + 1))) else none)))
 else
 (some ([] : List Int)))) N (id, r, (r.length : Int), 0))))
def jj5 (N : Nat) : Model := ⟨⟨[.pv (.opt Y0), .pv .str, .pv .str, .pv (.int .i64)], []⟩, ⟨[.pv Y19], []⟩, fun a => i_scorer_places_v2_m N a.1 a.2.1 a.2.2.1 a.2.2.2⟩
theorem jtN (N : Nat) : ModelOk Tryz.prog 83 (jj5 N) :=
 mO (fC (jcq N) ja) Tryz.func83 rfl N (.seq .no (.seq (.seq .no (.block (.loop jrJ .no))) .no)) (jj5 N)
def jm1 : Sh := ⟨.pv (.opt Y0) :: .pv .str :: .pv .str :: .pv (.int .i64) :: dz 5 (.pv Y19 :: .pv (.int .i64) :: dz 16 (.pv Y3 :: .pv (.int .i64) :: .pv (.int .i64) :: dz 49 [])), []⟩
def i_scorer_points_v2_m (N : Nat) (x : Option Z1) (field : List UInt8) (term : List UInt8) (id : Int) : Z20 :=
 (Option.bind (i_scorer_places_v2_m N x field term id) fun r =>
 (bif (decide ((r.length : Int) = 0)) then
 (some 0)
 else
 (Option.bind x fun p =>
 (iter (fun go (g : (Option Z1) × Z0 × Z0 × Int × (List Int) × Int × (List Z3) × Int × Int) =>
 match g with
 | (x2, field2, term2, id2, at0, total, t27, t28, t29) =>
 (bif (decide (t29 < t28)) then
 (Option.bind (idx t27 t29) fun e =>
 (Option.bind x2 fun p2 =>
 (Option.bind x2 fun p3 =>
 (Option.bind (i_Seg_long_m N p2.2.2 p3.1 p3.2.1 field2 e.1) fun r2 =>
 (if fits (total + r2) then (if fits (t29 + 1) then (go (x2, field2, term2, id2, at0, (total + r2), t27, t28, (t29 + 1))) else none) else none)))))
 else
 (Option.bind x2 fun p4 =>
 (Option.bind x2 fun p5 =>
 (Option.bind (i_Seg_long_m N p4.2.2 p5.1 p5.2.1 field2 id2) fun r3 =>
 (Option.bind x2 fun p6 =>
 (Option.bind x2 fun p7 =>
 (Option.bind (i_Seg_posts_m N p7.2.2 field2 term2) fun r4 =>
 (Option.bind (i_TermScore_m N (at0.length : Int) r3 total (p6.2.2.1.length : Int) (r4.length : Int)) fun r5 =>
 (Option.bind (i_RatFloor_m N r5.1 r5.2.1 1000) fun r6 =>
 (some r6))))))))))) N (x, field, term, id, r, 0, p.2.2.1, (p.2.2.1.length : Int), 0)))))
def jin (N : Nat) : Model := ⟨⟨[.pv (.opt Y0), .pv .str, .pv .str, .pv (.int .i64)], []⟩, ⟨[.pv (.int .i64)], []⟩, fun a => i_scorer_points_v2_m N a.1 a.2.1 a.2.2.1 a.2.2.2⟩
theorem jlR (N : Nat) : ModelOk Tryz.prog 41 (jin N) :=
 mO (fC (jtN N) (fC (jhs N) (fC (jcq N) (fC (jgE N) (fC (jiY N) ja))))) Tryz.func41 rfl N (.seq .no (.seq .no (.seq .no (.seq .no (.seq (.seq .no (.block (.loop jm1 .no))) .no))))) (jin N)
def k_cmp_isNaN_538_m (N : Nat) (x : Int) : Z13 :=
 (some (!decide (x = x)))
def je7 (N : Nat) : Model := ⟨⟨[.pv (.int .i64)], []⟩, ⟨[.pv .bool], []⟩, fun a => k_cmp_isNaN_538_m N a⟩
theorem joK (N : Nat) : ModelOk Tryz.prog 88 (je7 N) :=
 mO ja Tryz.func88 rfl N .no (je7 N)
def k_cmp_Compare_992_m (N : Nat) (x : Int) (y : Int) : Z20 :=
 (Option.bind (k_cmp_isNaN_538_m N x) fun r =>
 (Option.bind (k_cmp_isNaN_538_m N y) fun r2 =>
 (bif r then
 (bif r2 then
 (some 0)
 else
 (some (-1)))
 else
 (bif r2 then
 (some 1)
 else
 (bif (decide (x < y)) then
 (some (-1))
 else
 (bif (decide (y < x)) then
 (some 1)
 else
 (some 0)))))))
def jgW (N : Nat) : Model := ⟨⟨[.pv (.int .i64), .pv (.int .i64)], []⟩, ⟨[.pv (.int .i64)], []⟩, fun a => k_cmp_Compare_992_m N a.1 a.2⟩
theorem jpP (N : Nat) : ModelOk Tryz.prog 45 (jgW N) :=
 mO (fC (joK N) ja) Tryz.func45 rfl N .no (jgW N)
def i_LikeTerms_1_m (N : Nat) (a : List UInt8) (b : List UInt8) (t2 : Option Z1) (t3 : List UInt8) (t4 : Int) : Z20 :=
 (Option.bind (i_scorer_points_v2_m N t2 t3 b t4) fun r =>
 (Option.bind (i_scorer_points_v2_m N t2 t3 a t4) fun r2 =>
 (Option.bind (k_cmp_Compare_992_m N r r2) fun r3 =>
 (Option.bind (jam N a b) fun r4 =>
 (Option.bind (jbe N ([r3, r4] : List Int)) fun r5 =>
 (some r5))))))
def jiP (N : Nat) : Model := ⟨⟨[.pv .str, .pv .str, .ptr (.opt Y0), .ptr .str, .ptr (.int .i64)], []⟩, ⟨[.pv (.int .i64)], []⟩, fun a => i_LikeTerms_1_m N a.1 a.2.1 a.2.2.1 a.2.2.2.1 a.2.2.2.2⟩
theorem jag (N : Nat) : ModelOk Tryz.prog 43 (jiP N) :=
 mO (fC (jlR N) (fC (jpP N) (fC (ji2 N) (fC (jhC N) ja)))) Tryz.func43 rfl N .no (jiP N)
def joj : Sh := ⟨.mtk 800000 .str 9 true :: .pv (.int .i64) :: .pv (.int .i64) :: .clo 43 [.ptr (.opt Y0), .ptr .str, .ptr (.int .i64)] :: dz 4 (.pv (.int .i64) :: dz 44 []), []⟩
def jp5 : Sh := ⟨.mtk 800000 .str 9 true :: .pv (.int .i64) :: .pv (.int .i64) :: .clo 43 [.ptr (.opt Y0), .ptr .str, .ptr (.int .i64)] :: dz 4 (.pv (.int .i64) :: .pv (.int .i64) :: dz 43 []), []⟩
def jgV (N : Nat) (data : List Z0) (a : Int) (b : Int) (cmp : Z14) : Z15 :=
 (if fits (a + 1) then (iter (fun go (g : (List Z0) × Int × Int × Z10 × Int) =>
 match g with
 | (data2, a2, b2, cmp2, i) =>
 (bif (decide (i < b2)) then
 (iter (fun go2 (g : Z17) =>
 match g with
 | (data3, a3, b3, cmp3, i2, j) =>
 (bif (decide (a3 < j)) then
 (if 0 ≤ j ∧ j < (data3.length : Int) then
 (Option.bind (data3[j.toNat]?) fun e =>
 (if fits (j - 1) then (if 0 ≤ (j - 1) ∧ (j - 1) < (data3.length : Int) then
 (Option.bind (data3[(j - 1).toNat]?) fun e2 =>
 (Option.bind (i_LikeTerms_1_m N e e2 cmp3.1 cmp3.2.1 cmp3.2.2) fun r =>
 (bif (decide (r < 0)) then
 (if fits (j - 1) then (if fits (j - 1) then (if 0 ≤ (j - 1) ∧ (j - 1) < (data3.length : Int) then
 (Option.bind (data3[(j - 1).toNat]?) fun e3 =>
 (if 0 ≤ j ∧ j < (data3.length : Int) then
 (Option.bind (data3[j.toNat]?) fun e4 =>
 (if 0 ≤ j ∧ j < (data3.length : Int) then
 (Option.bind (data3[j.toNat]?) fun e5 =>
 (if 0 ≤ (j - 1) ∧ (j - 1) < ((data3.set j.toNat e3).length : Int) then
 (Option.bind ((data3.set j.toNat e3)[(j - 1).toNat]?) fun e6 =>
 (if fits (j - 1) then (go2 (((data3.set j.toNat e3).set (j - 1).toNat e4), a3, b3, cmp3, i2, (j - 1))) else none))
 else none))
 else none))
 else none))
 else none) else none) else none)
 else
 (if fits (i2 + 1) then (go (data3, a3, b3, cmp3, (i2 + 1))) else none))))
 else none) else none))
 else none)
 else
 (if fits (i2 + 1) then (go (data3, a3, b3, cmp3, (i2 + 1))) else none))) N (data2, a2, b2, cmp2, i, i))
 else
 (some data2))) N (data, a, b, cmp, (a + 1))) else none)
def jfj (N : Nat) : Model := ⟨⟨[.mtk 800000 .str 9 true, .pv (.int .i64), .pv (.int .i64), .clo 43 [.ptr (.opt Y0), .ptr .str, .ptr (.int .i64)]], []⟩, ⟨[.tup [], .mtk 800000 .str 9 true], []⟩, fun a => jgV N a.1 a.2.1 a.2.2.1 a.2.2.2⟩
theorem jrS (N : Nat) : ModelOk Tryz.prog 129 (jfj N) :=
 mO (fC (jag N) ja) Tryz.func129 rfl N (.seq .no (.block (.loop joj (.seq .no (.seq (.block (.seq .no (.block (.loop jp5 .no)))) .no))))) (jfj N) (rs := [800000])
def jpu : Sh := ⟨.mtk 800000 .str 9 true :: .dead :: .pv (.int .i64) :: .pv (.int .i64) :: .clo 43 [.ptr (.opt Y0), .ptr .str, .ptr (.int .i64)] :: dz 5 (.pv (.int .i64) :: dz 71 []), []⟩
def jsz : Sh := ⟨.mtk 800000 .str 9 true :: .dead :: .pv (.int .i64) :: .pv (.int .i64) :: .clo 43 [.ptr (.opt Y0), .ptr .str, .ptr (.int .i64)] :: dz 5 (.pv (.int .i64) :: .pv (.int .i64) :: dz 70 []), []⟩
def jdP (N : Nat) (data : List Z0) (lo : Int) (hi : Int) (first : Int) (cmp : Z14) : Z15 :=
 (iter (fun go (g : (List Z0) × Int × Int × Z10 × Int) =>
 match g with
 | (data2, hi2, first2, cmp2, root) =>
 (if fits (2 * root) then (if fits ((2 * root) + 1) then (bif (decide (hi2 ≤ ((2 * root) + 1))) then
 (some data2)
 else
 (meet (fun (g : Z17) =>
 match g with
 | (data3, hi3, first3, cmp3, root2, child) =>
 (if fits (first3 + root2) then (if 0 ≤ (first3 + root2) ∧ (first3 + root2) < (data3.length : Int) then
 (Option.bind (data3[(first3 + root2).toNat]?) fun e3 =>
 (if fits (first3 + child) then (if 0 ≤ (first3 + child) ∧ (first3 + child) < (data3.length : Int) then
 (Option.bind (data3[(first3 + child).toNat]?) fun e4 =>
 (Option.bind (i_LikeTerms_1_m N e3 e4 cmp3.1 cmp3.2.1 cmp3.2.2) fun r2 =>
 (bif (!(decide (r2 < 0))) then
 (some data3)
 else
 (if fits (first3 + root2) then (if fits (first3 + child) then (if fits (first3 + child) then (if 0 ≤ (first3 + child) ∧ (first3 + child) < (data3.length : Int) then
 (Option.bind (data3[(first3 + child).toNat]?) fun e5 =>
 (if fits (first3 + root2) then (if 0 ≤ (first3 + root2) ∧ (first3 + root2) < (data3.length : Int) then
 (Option.bind (data3[(first3 + root2).toNat]?) fun e6 =>
 (if 0 ≤ (first3 + root2) ∧ (first3 + root2) < (data3.length : Int) then
 (Option.bind (data3[(first3 + root2).toNat]?) fun e7 =>
 (if 0 ≤ (first3 + child) ∧ (first3 + child) < ((data3.set (first3 + root2).toNat e5).length : Int) then
 (Option.bind ((data3.set (first3 + root2).toNat e5)[(first3 + child).toNat]?) fun e8 =>
 (go (((data3.set (first3 + root2).toNat e5).set (first3 + child).toNat e6), hi3, first3, cmp3, child)))
 else none))
 else none))
 else none) else none))
 else none) else none) else none) else none))))
 else none) else none))
 else none) else none)) fun J =>
 (if fits (((2 * root) + 1) + 1) then (bif (decide ((((2 * root) + 1) + 1) < hi2)) then
 (if fits (first2 + ((2 * root) + 1)) then (if 0 ≤ (first2 + ((2 * root) + 1)) ∧ (first2 + ((2 * root) + 1)) < (data2.length : Int) then
 (Option.bind (data2[(first2 + ((2 * root) + 1)).toNat]?) fun e =>
 (if fits (first2 + ((2 * root) + 1)) then (if fits ((first2 + ((2 * root) + 1)) + 1) then (if 0 ≤ ((first2 + ((2 * root) + 1)) + 1) ∧ ((first2 + ((2 * root) + 1)) + 1) < (data2.length : Int) then
 (Option.bind (data2[((first2 + ((2 * root) + 1)) + 1).toNat]?) fun e2 =>
 (Option.bind (i_LikeTerms_1_m N e e2 cmp2.1 cmp2.2.1 cmp2.2.2) fun r =>
 (bif (decide (r < 0)) then
 (if fits (((2 * root) + 1) + 1) then (J (data2, hi2, first2, cmp2, root, (((2 * root) + 1) + 1))) else none)
 else
 (J (data2, hi2, first2, cmp2, root, ((2 * root) + 1))))))
 else none) else none) else none))
 else none) else none)
 else
 (J (data2, hi2, first2, cmp2, root, ((2 * root) + 1)))) else none))) else none) else none)) N (data, hi, first, cmp, lo))
def jg7 (N : Nat) : Model := ⟨⟨[.mtk 800000 .str 9 true, .pv (.int .i64), .pv (.int .i64), .pv (.int .i64), .clo 43 [.ptr (.opt Y0), .ptr .str, .ptr (.int .i64)]], []⟩, ⟨[.tup [], .mtk 800000 .str 9 true], []⟩, fun a => jdP N a.1 a.2.1 a.2.2.1 a.2.2.2.1 a.2.2.2.2⟩
theorem jmg (N : Nat) : ModelOk Tryz.prog 179 (jg7 N) :=
 mO (fC (jag N) ja) Tryz.func179 rfl N (.seq .no (.block (.loop jpu (.block (.seq .no (.seq .no (.meet jsz .no .no))))))) (jg7 N) (rs := [800000])
def jpV : Sh := ⟨.mtk 800000 .str 9 true :: .dead :: .dead :: .clo 43 [.ptr (.opt Y0), .ptr .str, .ptr (.int .i64)] :: dz 4 (.pv (.int .i64) :: .pv (.int .i64) :: .pv (.int .i64) :: .pv (.int .i64) :: dz 48 []), []⟩
def jsf : Sh := ⟨.mtk 800000 .str 9 true :: .dead :: .dead :: .clo 43 [.ptr (.opt Y0), .ptr .str, .ptr (.int .i64)] :: dz 4 (.pv (.int .i64) :: .pv (.int .i64) :: .dead :: .dead :: .pv (.int .i64) :: dz 47 []), []⟩
def jaD (N : Nat) (data : List Z0) (a : Int) (b : Int) (cmp : Z14) : Z15 :=
 (if fits (b - a) then (if fits ((b - a) - 1) then (if 2 ≠ 0 then
 (if fits (((b - a) - 1).tdiv 2) then (iter (fun go (g : (List Z0) × Z10 × Int × Int × Int × Int) =>
 match g with
 | (data2, cmp2, first, lo, hi, i) =>
 (bif (decide ((0 : Int) ≤ i)) then
 (Option.bind (jdP N data2 i hi first cmp2) fun r =>
 (if fits (i - 1) then (go (r, cmp2, first, lo, hi, (i - 1))) else none))
 else
 (if fits (hi - 1) then (iter (fun go2 (g : (List Z0) × Z10 × Int × Int × Int) =>
 match g with
 | (data3, cmp3, first2, lo2, i2) =>
 (bif (decide ((0 : Int) ≤ i2)) then
 (if fits (first2 + i2) then (if fits (first2 + i2) then (if 0 ≤ (first2 + i2) ∧ (first2 + i2) < (data3.length : Int) then
 (Option.bind (data3[(first2 + i2).toNat]?) fun e =>
 (if 0 ≤ first2 ∧ first2 < (data3.length : Int) then
 (Option.bind (data3[first2.toNat]?) fun e2 =>
 (if 0 ≤ first2 ∧ first2 < (data3.length : Int) then
 (Option.bind (data3[first2.toNat]?) fun e3 =>
 (if 0 ≤ (first2 + i2) ∧ (first2 + i2) < ((data3.set first2.toNat e).length : Int) then
 (Option.bind ((data3.set first2.toNat e)[(first2 + i2).toNat]?) fun e4 =>
 (Option.bind (jdP N ((data3.set first2.toNat e).set (first2 + i2).toNat e2) lo2 i2 first2 cmp3) fun r2 =>
 (if fits (i2 - 1) then (go2 (r2, cmp3, first2, lo2, (i2 - 1))) else none)))
 else none))
 else none))
 else none))
 else none) else none) else none)
 else
 (some data3))) N (data2, cmp2, first, lo, (hi - 1))) else none))) N (data, cmp, a, 0, (b - a), (((b - a) - 1).tdiv 2))) else none)
 else none) else none) else none)
def jjs (N : Nat) : Model := ⟨⟨[.mtk 800000 .str 9 true, .pv (.int .i64), .pv (.int .i64), .clo 43 [.ptr (.opt Y0), .ptr .str, .ptr (.int .i64)]], []⟩, ⟨[.tup [], .mtk 800000 .str 9 true], []⟩, fun a => jaD N a.1 a.2.1 a.2.2.1 a.2.2.2⟩
theorem jqM (N : Nat) : ModelOk Tryz.prog 130 (jjs N) :=
 mO (fC (jmg N) ja) Tryz.func130 rfl N (.seq .no (.seq .no (.seq .no (.seq (.seq .no (.block (.loop jpV .no))) (.seq .no (.block (.loop jsf .no))))))) (jjs N) (rs := [800000])
def jtM : Sh := ⟨.mtk 800000 .str 9 true :: .pv (.int .i64) :: dz 6 (.pv (.int .i64) :: .box 9 0 :: .pv (.int .u64) :: .pv (.int .i64) :: dz 55 []), [(9, false, [.pv (.int .u64)])]⟩
def jqN : Sh := ⟨.mtk 800000 .str 9 true :: .pv (.int .i64) :: dz 6 (.pv (.int .i64) :: .box 9 0 :: .pv (.int .u64) :: .pv (.int .i64) :: .pv (.int .i64) :: dz 54 []), [(9, false, [.pv (.int .u64)])]⟩
def jhp (N : Nat) (data : List Z0) (a : Int) (b : Int) (cmp : Z14) : Z15 :=
 (if fits (b - a) then (bif (decide ((8 : Int) ≤ (b - a))) then
 (Option.bind (k_slices_nextPowerOfTwo_m N (b - a)) fun r =>
 (if 4 ≠ 0 then
 (if fits ((b - a).tdiv 4) then (if fits (((b - a).tdiv 4) * 2) then (if fits (a + (((b - a).tdiv 4) * 2)) then (if fits ((a + (((b - a).tdiv 4) * 2)) - 1) then (iter (fun go (g : (List Z0) × Int × Int × Int × Int × Int) =>
 match g with
 | (data2, a2, length, modulus, idx0, random) =>
 (if 4 ≠ 0 then
 (if fits (length.tdiv 4) then (if fits ((length.tdiv 4) * 2) then (if fits (a2 + ((length.tdiv 4) * 2)) then (if fits ((a2 + ((length.tdiv 4) * 2)) + 1) then (bif (decide (idx0 ≤ ((a2 + ((length.tdiv 4) * 2)) + 1))) then
 (Option.bind (k__slices_xorshift_Next_m N random) fun r2 =>
 (meet (fun (g : (List Z0) × Int × Int × Int × Int × Int × Int) =>
 match g with
 | (data3, a3, length2, modulus2, idx02, other, random2) =>
 (if fits (a3 + other) then (if fits (a3 + other) then (if 0 ≤ (a3 + other) ∧ (a3 + other) < (data3.length : Int) then
 (Option.bind (data3[(a3 + other).toNat]?) fun e =>
 (if 0 ≤ idx02 ∧ idx02 < (data3.length : Int) then
 (Option.bind (data3[idx02.toNat]?) fun e2 =>
 (if 0 ≤ idx02 ∧ idx02 < (data3.length : Int) then
 (Option.bind (data3[idx02.toNat]?) fun e3 =>
 (if 0 ≤ (a3 + other) ∧ (a3 + other) < ((data3.set idx02.toNat e).length : Int) then
 (Option.bind ((data3.set idx02.toNat e)[(a3 + other).toNat]?) fun e4 =>
 (if fits (idx02 + 1) then (go (((data3.set idx02.toNat e).set (a3 + other).toNat e2), a3, length2, modulus2, (idx02 + 1), random2)) else none))
 else none))
 else none))
 else none))
 else none) else none) else none)) fun J =>
 (bif (decide (length ≤ (IntKind.i64.wrap (bitsI .and .u64 r2.1 (IntKind.u64.wrap (modulus - 1)))))) then
 (if fits ((IntKind.i64.wrap (bitsI .and .u64 r2.1 (IntKind.u64.wrap (modulus - 1)))) - length) then (J (data2, a2, length, modulus, idx0, ((IntKind.i64.wrap (bitsI .and .u64 r2.1 (IntKind.u64.wrap (modulus - 1)))) - length), r2.2)) else none)
 else
 (J (data2, a2, length, modulus, idx0, (IntKind.i64.wrap (bitsI .and .u64 r2.1 (IntKind.u64.wrap (modulus - 1)))), r2.2)))))
 else
 (some data2)) else none) else none) else none) else none)
 else none)) N (data, a, (b - a), r, ((a + (((b - a).tdiv 4) * 2)) - 1), (IntKind.u64.wrap (b - a)))) else none) else none) else none) else none)
 else none))
 else
 (some data)) else none)
def jhI (N : Nat) : Model := ⟨⟨[.mtk 800000 .str 9 true, .pv (.int .i64), .pv (.int .i64), .clo 43 [.ptr (.opt Y0), .ptr .str, .ptr (.int .i64)]], []⟩, ⟨[.tup [], .mtk 800000 .str 9 true], []⟩, fun a => jhp N a.1 a.2.1 a.2.2.1 a.2.2.2⟩
theorem jsh (N : Nat) : ModelOk Tryz.prog 131 (jhI N) :=
 mO (fC (jhv N) (fC (jet N) ja)) Tryz.func131 rfl N (.seq .no (.seq .no (.cond (.seq .no (.seq .no (.seq .no (.block (.loop jtM (.seq .no (.seq (.block (.seq .no (.meet jqN .no .no))) .no))))))) .no))) (jhI N) (rs := [800000])
def jch (N : Nat) (data : List Z0) (a : Int) (b : Int) (cmp : Z14) (b2 : Int) : Option (Int × Int × (List Z0) × Int) :=
 (if 0 ≤ b ∧ b < (data.length : Int) then
 (Option.bind (data[b.toNat]?) fun e =>
 (if 0 ≤ a ∧ a < (data.length : Int) then
 (Option.bind (data[a.toNat]?) fun e2 =>
 (Option.bind (i_LikeTerms_1_m N e e2 cmp.1 cmp.2.1 cmp.2.2) fun r =>
 (bif (decide (r < 0)) then
 (if fits (b2 + 1) then (some (b, a, data, (b2 + 1))) else none)
 else
 (some (a, b, data, b2)))))
 else none))
 else none)
def jff (N : Nat) : Model := ⟨⟨[.mtk 800000 .str 9 true, .pv (.int .i64), .pv (.int .i64), .box 900003 0, .clo 43 [.ptr (.opt Y0), .ptr .str, .ptr (.int .i64)]], [(900003, false, [.pv (.int .i64)])]⟩, ⟨[.tup [.pv (.int .i64), .pv (.int .i64)], .mtk 800000 .str 9 true], [(900003, false, [.pv (.int .i64)])]⟩, fun a => jch N a.1 a.2.1 a.2.2.1 a.2.2.2.1 a.2.2.2.2⟩
theorem jsL (N : Nat) : ModelOk Tryz.prog 221 (jff N) :=
 mO (fC (jag N) ja) Tryz.func221 rfl N .no (jff N) (rs := [900003, 800000])
def jdR (N : Nat) (data : List Z0) (a : Int) (b : Int) (c : Int) (cmp : Z14) (b2 : Int) : Option (Int × (List Z0) × Int) :=
 (Option.bind (jch N data a b cmp b2) fun r =>
 (Option.bind (jch N r.2.2.1 r.2.1 c cmp r.2.2.2) fun r2 =>
 (Option.bind (jch N r2.2.2.1 r.1 r2.1 cmp r2.2.2.2) fun r3 =>
 (some (r3.2.1, r3.2.2.1, r3.2.2.2)))))
def jim (N : Nat) : Model := ⟨⟨[.mtk 800000 .str 9 true, .pv (.int .i64), .pv (.int .i64), .pv (.int .i64), .box 900004 0, .clo 43 [.ptr (.opt Y0), .ptr .str, .ptr (.int .i64)]], [(900004, false, [.pv (.int .i64)])]⟩, ⟨[.pv (.int .i64), .mtk 800000 .str 9 true], [(900004, false, [.pv (.int .i64)])]⟩, fun a => jdR N a.1 a.2.1 a.2.2.1 a.2.2.2.1 a.2.2.2.2.1 a.2.2.2.2.2⟩
theorem jjj (N : Nat) : ModelOk Tryz.prog 183 (jim N) :=
 mO (fC (jsL N) ja) Tryz.func183 rfl N .no (jim N) (rs := [900004, 800000])
def jcI (N : Nat) (data : List Z0) (a : Int) (cmp : Z14) (b : Int) : Option (Int × (List Z0) × Int) :=
 (if fits (a - 1) then (if fits (a + 1) then (Option.bind (jdR N data (a - 1) a (a + 1) cmp b) fun r =>
 (some (r.1, r.2.1, r.2.2))) else none) else none)
def jfW (N : Nat) : Model := ⟨⟨[.mtk 800000 .str 9 true, .pv (.int .i64), .box 900002 0, .clo 43 [.ptr (.opt Y0), .ptr .str, .ptr (.int .i64)]], [(900002, false, [.pv (.int .i64)])]⟩, ⟨[.pv (.int .i64), .mtk 800000 .str 9 true], [(900002, false, [.pv (.int .i64)])]⟩, fun a => jcI N a.1 a.2.1 a.2.2.1 a.2.2.2⟩
theorem jkk (N : Nat) : ModelOk Tryz.prog 182 (jfW N) :=
 mO (fC (jjj N) ja) Tryz.func182 rfl N .no (jfW N) (rs := [900002, 800000])
def jnk : Sh := ⟨.mtk 800000 .str 9 true :: .dead :: .dead :: .clo 43 [.ptr (.opt Y0), .ptr .str, .ptr (.int .i64)] :: dz 7 (.box 11 0 :: .pv (.int .i64) :: .pv (.int .i64) :: .pv (.int .i64) :: dz 48 []), [(11, false, [.pv (.int .i64)])]⟩
def jpT : Sh := ⟨.mtk 800000 .str 9 true :: dz 10 (.box 11 0 :: .dead :: .pv (.int .i64) :: dz 49 []), [(11, false, [.pv (.int .i64)])]⟩
def ji3 (N : Nat) (data : List Z0) (a : Int) (b : Int) (cmp : Z14) : Option (Int × Int × (List Z0)) :=
 (if fits (b - a) then (if 4 ≠ 0 then
 (if fits ((b - a).tdiv 4) then (if fits (((b - a).tdiv 4) * 1) then (if fits (a + (((b - a).tdiv 4) * 1)) then (if 4 ≠ 0 then
 (if fits ((b - a).tdiv 4) then (if fits (((b - a).tdiv 4) * 2) then (if fits (a + (((b - a).tdiv 4) * 2)) then (if 4 ≠ 0 then
 (if fits ((b - a).tdiv 4) then (if fits (((b - a).tdiv 4) * 3) then (if fits (a + (((b - a).tdiv 4) * 3)) then (meet (fun (g : (List Z0) × Int × Int) =>
 match g with
 | (data3, j2, swaps2) =>
 (bif (decide (swaps2 = 0)) then
 (some (j2, 1, data3))
 else
 (bif (decide (swaps2 = 12)) then
 (some (j2, 2, data3))
 else
 (some (j2, 0, data3))))) fun J =>
 (bif (decide ((8 : Int) ≤ (b - a))) then
 (meet (fun (g : (List Z0) × Z10 × Int × Int × Int × Int) =>
 match g with
 | (data2, cmp2, i, j, k, swaps) =>
 (Option.bind (jdR N data2 i j k cmp2 swaps) fun r4 =>
 (J (r4.2.1, r4.1, r4.2.2)))) fun J2 =>
 (bif (decide ((50 : Int) ≤ (b - a))) then
 (Option.bind (jcI N data (a + (((b - a).tdiv 4) * 1)) cmp 0) fun r =>
 (Option.bind (jcI N r.2.1 (a + (((b - a).tdiv 4) * 2)) cmp r.2.2) fun r2 =>
 (Option.bind (jcI N r2.2.1 (a + (((b - a).tdiv 4) * 3)) cmp r2.2.2) fun r3 =>
 (J2 (r3.2.1, cmp, r.1, r2.1, r3.1, r3.2.2)))))
 else
 (J2 (data, cmp, (a + (((b - a).tdiv 4) * 1)), (a + (((b - a).tdiv 4) * 2)), (a + (((b - a).tdiv 4) * 3)), 0))))
 else
 (J (data, (a + (((b - a).tdiv 4) * 2)), 0)))) else none) else none) else none)
 else none) else none) else none) else none)
 else none) else none) else none) else none)
 else none) else none)
def jeU (N : Nat) : Model := ⟨⟨[.mtk 800000 .str 9 true, .pv (.int .i64), .pv (.int .i64), .clo 43 [.ptr (.opt Y0), .ptr .str, .ptr (.int .i64)]], []⟩, ⟨[.tup [.pv (.int .i64), .pv (.int .i64)], .mtk 800000 .str 9 true], []⟩, fun a => ji3 N a.1 a.2.1 a.2.2.1 a.2.2.2⟩
theorem jk1 (N : Nat) : ModelOk Tryz.prog 132 (jeU N) :=
 mO (fC (jkk N) (fC (jjj N) ja)) Tryz.func132 rfl N (.seq .no (.seq .no (.seq .no (.seq .no (.seq .no (.seq .no (.meet jpT (.seq .no (.cond (.meet jnk .no .no) .no)) .no))))))) (jeU N) (rs := [800000])
def jok : Sh := ⟨.mtk 800000 .str 9 true :: dz 7 (.pv (.int .i64) :: .pv (.int .i64) :: dz 24 []), []⟩
def jiw (N : Nat) (data : List Z0) (a : Int) (b : Int) (cmp : Z14) : Z15 :=
 (if fits (b - 1) then (iter (fun go (g : (List Z0) × Int × Int) =>
 match g with
 | (data2, i, j) =>
 (bif (decide (i < j)) then
 (if 0 ≤ j ∧ j < (data2.length : Int) then
 (Option.bind (data2[j.toNat]?) fun e =>
 (if 0 ≤ i ∧ i < (data2.length : Int) then
 (Option.bind (data2[i.toNat]?) fun e2 =>
 (if 0 ≤ i ∧ i < (data2.length : Int) then
 (Option.bind (data2[i.toNat]?) fun e3 =>
 (if 0 ≤ j ∧ j < ((data2.set i.toNat e).length : Int) then
 (Option.bind ((data2.set i.toNat e)[j.toNat]?) fun e4 =>
 (if fits (i + 1) then (if fits (j - 1) then (go (((data2.set i.toNat e).set j.toNat e2), (i + 1), (j - 1))) else none) else none))
 else none))
 else none))
 else none))
 else none)
 else
 (some data2))) N (data, a, (b - 1))) else none)
def jjW (N : Nat) : Model := ⟨⟨[.mtk 800000 .str 9 true, .pv (.int .i64), .pv (.int .i64), .clo 43 [.ptr (.opt Y0), .ptr .str, .ptr (.int .i64)]], []⟩, ⟨[.tup [], .mtk 800000 .str 9 true], []⟩, fun a => jiw N a.1 a.2.1 a.2.2.1 a.2.2.2⟩
theorem jpf (N : Nat) : ModelOk Tryz.prog 133 (jjW N) :=
 mO ja Tryz.func133 rfl N (.seq .no (.seq .no (.block (.loop jok .no)))) (jjW N) (rs := [800000])
def jpq : Sh := ⟨.mtk 800000 .str 9 true :: .pv (.int .i64) :: .pv (.int .i64) :: .clo 43 [.ptr (.opt Y0), .ptr .str, .ptr (.int .i64)] :: dz 5 (.pv (.int .i64) :: .pv (.int .i64) :: dz 130 []), []⟩
def joQ : Sh := ⟨.mtk 800000 .str 9 true :: .pv (.int .i64) :: .pv (.int .i64) :: .clo 43 [.ptr (.opt Y0), .ptr .str, .ptr (.int .i64)] :: dz 5 (.pv (.int .i64) :: .pv (.int .i64) :: dz 130 []), []⟩
def jmz : Sh := ⟨.mtk 800000 .str 9 true :: .pv (.int .i64) :: .pv (.int .i64) :: .clo 43 [.ptr (.opt Y0), .ptr .str, .ptr (.int .i64)] :: dz 5 (.pv (.int .i64) :: .pv (.int .i64) :: .pv (.int .i64) :: dz 129 []), []⟩
def jmt : Sh := ⟨.mtk 800000 .str 9 true :: .pv (.int .i64) :: .pv (.int .i64) :: .clo 43 [.ptr (.opt Y0), .ptr .str, .ptr (.int .i64)] :: dz 5 (.pv (.int .i64) :: .pv (.int .i64) :: .dead :: .pv (.int .i64) :: dz 128 []), []⟩
def jsA : Sh := ⟨.mtk 800000 .str 9 true :: .pv (.int .i64) :: .pv (.int .i64) :: .clo 43 [.ptr (.opt Y0), .ptr .str, .ptr (.int .i64)] :: dz 5 (.pv (.int .i64) :: .pv (.int .i64) :: dz 130 []), []⟩
def jf2 (N : Nat) (data : List Z0) (a : Int) (b : Int) (cmp : Z14) : Option (Bool × (List Z0)) :=
 (if fits (a + 1) then (iter (fun go (g : Z17) =>
 match g with
 | (data2, a2, b2, cmp2, i, j) =>
 (bif (decide (j < 5)) then
 (iter (fun go2 (g : Z17) =>
 match g with
 | (data3, a3, b3, cmp3, i2, j2) =>
 (bif (decide (i2 < b3)) then
 (if 0 ≤ i2 ∧ i2 < (data3.length : Int) then
 (Option.bind (data3[i2.toNat]?) fun e =>
 (if fits (i2 - 1) then (if 0 ≤ (i2 - 1) ∧ (i2 - 1) < (data3.length : Int) then
 (Option.bind (data3[(i2 - 1).toNat]?) fun e2 =>
 (Option.bind (i_LikeTerms_1_m N e e2 cmp3.1 cmp3.2.1 cmp3.2.2) fun r =>
 (bif (!(decide (r < 0))) then
 (if fits (i2 + 1) then (go2 (data3, a3, b3, cmp3, (i2 + 1), j2)) else none)
 else
 (bif (decide (i2 = b3)) then
 (some (true, data3))
 else
 (if fits (b3 - a3) then (bif (decide ((b3 - a3) < 50)) then
 (some (false, data3))
 else
 (if fits (i2 - 1) then (if fits (i2 - 1) then (if 0 ≤ (i2 - 1) ∧ (i2 - 1) < (data3.length : Int) then
 (Option.bind (data3[(i2 - 1).toNat]?) fun e3 =>
 (if 0 ≤ i2 ∧ i2 < (data3.length : Int) then
 (Option.bind (data3[i2.toNat]?) fun e4 =>
 (if 0 ≤ i2 ∧ i2 < (data3.length : Int) then
 (Option.bind (data3[i2.toNat]?) fun e5 =>
 (if 0 ≤ (i2 - 1) ∧ (i2 - 1) < ((data3.set i2.toNat e3).length : Int) then
 (Option.bind ((data3.set i2.toNat e3)[(i2 - 1).toNat]?) fun e6 =>
 (meet (fun (g : Z17) =>
 match g with
 | (data5, a5, b5, cmp5, i4, j5) =>
 (if fits (b5 - i4) then (bif (decide ((2 : Int) ≤ (b5 - i4))) then
 (if fits (i4 + 1) then (iter (fun go4 (g : Z22) =>
 match g with
 | (data6, a6, b6, cmp6, i5, j6, j7) =>
 (bif (decide (j7 < b6)) then
 (if 0 ≤ j7 ∧ j7 < (data6.length : Int) then
 (Option.bind (data6[j7.toNat]?) fun e13 =>
 (if fits (j7 - 1) then (if 0 ≤ (j7 - 1) ∧ (j7 - 1) < (data6.length : Int) then
 (Option.bind (data6[(j7 - 1).toNat]?) fun e14 =>
 (Option.bind (i_LikeTerms_1_m N e13 e14 cmp6.1 cmp6.2.1 cmp6.2.2) fun r3 =>
 (bif (!(decide (r3 < 0))) then
 (if fits (j6 + 1) then (go (data6, a6, b6, cmp6, i5, (j6 + 1))) else none)
 else
 (if fits (j7 - 1) then (if fits (j7 - 1) then (if 0 ≤ (j7 - 1) ∧ (j7 - 1) < (data6.length : Int) then
 (Option.bind (data6[(j7 - 1).toNat]?) fun e15 =>
 (if 0 ≤ j7 ∧ j7 < (data6.length : Int) then
 (Option.bind (data6[j7.toNat]?) fun e16 =>
 (if 0 ≤ j7 ∧ j7 < (data6.length : Int) then
 (Option.bind (data6[j7.toNat]?) fun e17 =>
 (if 0 ≤ (j7 - 1) ∧ (j7 - 1) < ((data6.set j7.toNat e15).length : Int) then
 (Option.bind ((data6.set j7.toNat e15)[(j7 - 1).toNat]?) fun e18 =>
 (if fits (j7 + 1) then (go4 (((data6.set j7.toNat e15).set (j7 - 1).toNat e16), a6, b6, cmp6, i5, j6, (j7 + 1))) else none))
 else none))
 else none))
 else none))
 else none) else none) else none))))
 else none) else none))
 else none)
 else
 (if fits (j6 + 1) then (go (data6, a6, b6, cmp6, i5, (j6 + 1))) else none))) N (data5, a5, b5, cmp5, i4, j5, (i4 + 1))) else none)
 else
 (if fits (j5 + 1) then (go (data5, a5, b5, cmp5, i4, (j5 + 1))) else none)) else none)) fun J =>
 (if fits (i2 - a3) then (bif (decide ((2 : Int) ≤ (i2 - a3))) then
 (if fits (i2 - 1) then (iter (fun go3 (g : Z22) =>
 match g with
 | (data4, a4, b4, cmp4, i3, j3, j4) =>
 (bif (decide ((1 : Int) ≤ j4)) then
 (if 0 ≤ j4 ∧ j4 < (data4.length : Int) then
 (Option.bind (data4[j4.toNat]?) fun e7 =>
 (if fits (j4 - 1) then (if 0 ≤ (j4 - 1) ∧ (j4 - 1) < (data4.length : Int) then
 (Option.bind (data4[(j4 - 1).toNat]?) fun e8 =>
 (Option.bind (i_LikeTerms_1_m N e7 e8 cmp4.1 cmp4.2.1 cmp4.2.2) fun r2 =>
 (bif (!(decide (r2 < 0))) then
 (J (data4, a4, b4, cmp4, i3, j3))
 else
 (if fits (j4 - 1) then (if fits (j4 - 1) then (if 0 ≤ (j4 - 1) ∧ (j4 - 1) < (data4.length : Int) then
 (Option.bind (data4[(j4 - 1).toNat]?) fun e9 =>
 (if 0 ≤ j4 ∧ j4 < (data4.length : Int) then
 (Option.bind (data4[j4.toNat]?) fun e10 =>
 (if 0 ≤ j4 ∧ j4 < (data4.length : Int) then
 (Option.bind (data4[j4.toNat]?) fun e11 =>
 (if 0 ≤ (j4 - 1) ∧ (j4 - 1) < ((data4.set j4.toNat e9).length : Int) then
 (Option.bind ((data4.set j4.toNat e9)[(j4 - 1).toNat]?) fun e12 =>
 (if fits (j4 - 1) then (go3 (((data4.set j4.toNat e9).set (j4 - 1).toNat e10), a4, b4, cmp4, i3, j3, (j4 - 1))) else none))
 else none))
 else none))
 else none))
 else none) else none) else none))))
 else none) else none))
 else none)
 else
 (J (data4, a4, b4, cmp4, i3, j3)))) N (((data3.set i2.toNat e3).set (i2 - 1).toNat e4), a3, b3, cmp3, i2, j2, (i2 - 1))) else none)
 else
 (J (((data3.set i2.toNat e3).set (i2 - 1).toNat e4), a3, b3, cmp3, i2, j2))) else none)))
 else none))
 else none))
 else none))
 else none) else none) else none)) else none)))))
 else none) else none))
 else none)
 else
 (bif (decide (i2 = b3)) then
 (some (true, data3))
 else
 (if fits (b3 - a3) then (bif (decide ((b3 - a3) < 50)) then
 (some (false, data3))
 else
 (if fits (i2 - 1) then (if fits (i2 - 1) then (if 0 ≤ (i2 - 1) ∧ (i2 - 1) < (data3.length : Int) then
 (Option.bind (data3[(i2 - 1).toNat]?) fun e19 =>
 (if 0 ≤ i2 ∧ i2 < (data3.length : Int) then
 (Option.bind (data3[i2.toNat]?) fun e20 =>
 (if 0 ≤ i2 ∧ i2 < (data3.length : Int) then
 (Option.bind (data3[i2.toNat]?) fun e21 =>
 (if 0 ≤ (i2 - 1) ∧ (i2 - 1) < ((data3.set i2.toNat e19).length : Int) then
 (Option.bind ((data3.set i2.toNat e19)[(i2 - 1).toNat]?) fun e22 =>
 (meet (fun (g : Z17) =>
 match g with
 | (data8, a8, b8, cmp8, i7, j10) =>
 (if fits (b8 - i7) then (bif (decide ((2 : Int) ≤ (b8 - i7))) then
 (if fits (i7 + 1) then (iter (fun go6 (g : Z22) =>
 match g with
 | (data9, a9, b9, cmp9, i8, j11, j12) =>
 (bif (decide (j12 < b9)) then
 (if 0 ≤ j12 ∧ j12 < (data9.length : Int) then
 (Option.bind (data9[j12.toNat]?) fun e29 =>
 (if fits (j12 - 1) then (if 0 ≤ (j12 - 1) ∧ (j12 - 1) < (data9.length : Int) then
 (Option.bind (data9[(j12 - 1).toNat]?) fun e30 =>
 (Option.bind (i_LikeTerms_1_m N e29 e30 cmp9.1 cmp9.2.1 cmp9.2.2) fun r5 =>
 (bif (!(decide (r5 < 0))) then
 (if fits (j11 + 1) then (go (data9, a9, b9, cmp9, i8, (j11 + 1))) else none)
 else
 (if fits (j12 - 1) then (if fits (j12 - 1) then (if 0 ≤ (j12 - 1) ∧ (j12 - 1) < (data9.length : Int) then
 (Option.bind (data9[(j12 - 1).toNat]?) fun e31 =>
 (if 0 ≤ j12 ∧ j12 < (data9.length : Int) then
 (Option.bind (data9[j12.toNat]?) fun e32 =>
 (if 0 ≤ j12 ∧ j12 < (data9.length : Int) then
 (Option.bind (data9[j12.toNat]?) fun e33 =>
 (if 0 ≤ (j12 - 1) ∧ (j12 - 1) < ((data9.set j12.toNat e31).length : Int) then
 (Option.bind ((data9.set j12.toNat e31)[(j12 - 1).toNat]?) fun e34 =>
 (if fits (j12 + 1) then (go6 (((data9.set j12.toNat e31).set (j12 - 1).toNat e32), a9, b9, cmp9, i8, j11, (j12 + 1))) else none))
 else none))
 else none))
 else none))
 else none) else none) else none))))
 else none) else none))
 else none)
 else
 (if fits (j11 + 1) then (go (data9, a9, b9, cmp9, i8, (j11 + 1))) else none))) N (data8, a8, b8, cmp8, i7, j10, (i7 + 1))) else none)
 else
 (if fits (j10 + 1) then (go (data8, a8, b8, cmp8, i7, (j10 + 1))) else none)) else none)) fun J2 =>
 (if fits (i2 - a3) then (bif (decide ((2 : Int) ≤ (i2 - a3))) then
 (if fits (i2 - 1) then (iter (fun go5 (g : Z22) =>
 match g with
 | (data7, a7, b7, cmp7, i6, j8, j9) =>
 (bif (decide ((1 : Int) ≤ j9)) then
 (if 0 ≤ j9 ∧ j9 < (data7.length : Int) then
 (Option.bind (data7[j9.toNat]?) fun e23 =>
 (if fits (j9 - 1) then (if 0 ≤ (j9 - 1) ∧ (j9 - 1) < (data7.length : Int) then
 (Option.bind (data7[(j9 - 1).toNat]?) fun e24 =>
 (Option.bind (i_LikeTerms_1_m N e23 e24 cmp7.1 cmp7.2.1 cmp7.2.2) fun r4 =>
 (bif (!(decide (r4 < 0))) then
 (J2 (data7, a7, b7, cmp7, i6, j8))
 else
 (if fits (j9 - 1) then (if fits (j9 - 1) then (if 0 ≤ (j9 - 1) ∧ (j9 - 1) < (data7.length : Int) then
 (Option.bind (data7[(j9 - 1).toNat]?) fun e25 =>
 (if 0 ≤ j9 ∧ j9 < (data7.length : Int) then
 (Option.bind (data7[j9.toNat]?) fun e26 =>
 (if 0 ≤ j9 ∧ j9 < (data7.length : Int) then
 (Option.bind (data7[j9.toNat]?) fun e27 =>
 (if 0 ≤ (j9 - 1) ∧ (j9 - 1) < ((data7.set j9.toNat e25).length : Int) then
 (Option.bind ((data7.set j9.toNat e25)[(j9 - 1).toNat]?) fun e28 =>
 (if fits (j9 - 1) then (go5 (((data7.set j9.toNat e25).set (j9 - 1).toNat e26), a7, b7, cmp7, i6, j8, (j9 - 1))) else none))
 else none))
 else none))
 else none))
 else none) else none) else none))))
 else none) else none))
 else none)
 else
 (J2 (data7, a7, b7, cmp7, i6, j8)))) N (((data3.set i2.toNat e19).set (i2 - 1).toNat e20), a3, b3, cmp3, i2, j2, (i2 - 1))) else none)
 else
 (J2 (((data3.set i2.toNat e19).set (i2 - 1).toNat e20), a3, b3, cmp3, i2, j2))) else none)))
 else none))
 else none))
 else none))
 else none) else none) else none)) else none)))) N (data2, a2, b2, cmp2, i, j))
 else
 (some (false, data2)))) N (data, a, b, cmp, (a + 1), 0)) else none)
def jiR (N : Nat) : Model := ⟨⟨[.mtk 800000 .str 9 true, .pv (.int .i64), .pv (.int .i64), .clo 43 [.ptr (.opt Y0), .ptr .str, .ptr (.int .i64)]], []⟩, ⟨[.pv .bool, .mtk 800000 .str 9 true], []⟩, fun a => jf2 N a.1 a.2.1 a.2.2.1 a.2.2.2⟩
theorem jle (N : Nat) : ModelOk Tryz.prog 134 (jiR N) :=
 mO (fC (jag N) ja) Tryz.func134 rfl N (.seq .no (.seq .no (.seq (.seq .no (.block (.loop jpq (.seq .no (.seq (.block (.seq (.block (.loop joQ .no)) (.seq .no (.seq .no (.seq .no (.meet jsA (.seq .no (.cond (.seq .no (.block (.loop jmz .no))) .no)) (.seq .no (.cond (.seq .no (.block (.loop jmt .no))) .no)))))))) .no))))) .no))) (jiR N) (rs := [800000])
def jmH : Sh := ⟨.mtk 800000 .str 9 true :: .pv (.int .i64) :: .dead :: .dead :: .clo 43 [.ptr (.opt Y0), .ptr .str, .ptr (.int .i64)] :: dz 6 (.pv (.int .i64) :: .pv (.int .i64) :: dz 77 []), []⟩
def js3 : Sh := ⟨.mtk 800000 .str 9 true :: .pv (.int .i64) :: .dead :: .dead :: .clo 43 [.ptr (.opt Y0), .ptr .str, .ptr (.int .i64)] :: dz 6 (.pv (.int .i64) :: .pv (.int .i64) :: dz 77 []), []⟩
def jr0 : Sh := ⟨.mtk 800000 .str 9 true :: .pv (.int .i64) :: .dead :: .dead :: .clo 43 [.ptr (.opt Y0), .ptr .str, .ptr (.int .i64)] :: dz 6 (.pv (.int .i64) :: .pv (.int .i64) :: dz 77 []), []⟩
def jcP (N : Nat) (data : List Z0) (a : Int) (b : Int) (pivot : Int) (cmp : Z14) : Option (Int × (List Z0)) :=
 (if 0 ≤ pivot ∧ pivot < (data.length : Int) then
 (Option.bind (data[pivot.toNat]?) fun e =>
 (if 0 ≤ a ∧ a < (data.length : Int) then
 (Option.bind (data[a.toNat]?) fun e2 =>
 (if 0 ≤ a ∧ a < (data.length : Int) then
 (Option.bind (data[a.toNat]?) fun e3 =>
 (if 0 ≤ pivot ∧ pivot < ((data.set a.toNat e).length : Int) then
 (Option.bind ((data.set a.toNat e)[pivot.toNat]?) fun e4 =>
 (if fits (a + 1) then (if fits (b - 1) then (iter (fun go (g : Z4) =>
 match g with
 | (data2, a2, cmp2, i, j) =>
 (iter (fun go2 (g : Z4) =>
 match g with
 | (data3, a3, cmp3, i2, j2) =>
 (bif (decide (i2 ≤ j2)) then
 (if 0 ≤ a3 ∧ a3 < (data3.length : Int) then
 (Option.bind (data3[a3.toNat]?) fun e5 =>
 (if 0 ≤ i2 ∧ i2 < (data3.length : Int) then
 (Option.bind (data3[i2.toNat]?) fun e6 =>
 (Option.bind (i_LikeTerms_1_m N e5 e6 cmp3.1 cmp3.2.1 cmp3.2.2) fun r =>
 (bif (!(decide (r < 0))) then
 (if fits (i2 + 1) then (go2 (data3, a3, cmp3, (i2 + 1), j2)) else none)
 else
 (iter (fun go3 (g : Z4) =>
 match g with
 | (data4, a4, cmp4, i3, j3) =>
 (bif (decide (i3 ≤ j3)) then
 (if 0 ≤ a4 ∧ a4 < (data4.length : Int) then
 (Option.bind (data4[a4.toNat]?) fun e7 =>
 (if 0 ≤ j3 ∧ j3 < (data4.length : Int) then
 (Option.bind (data4[j3.toNat]?) fun e8 =>
 (Option.bind (i_LikeTerms_1_m N e7 e8 cmp4.1 cmp4.2.1 cmp4.2.2) fun r2 =>
 (bif (decide (r2 < 0)) then
 (if fits (j3 - 1) then (go3 (data4, a4, cmp4, i3, (j3 - 1))) else none)
 else
 (bif (decide (j3 < i3)) then
 (some (i3, data4))
 else
 (if 0 ≤ j3 ∧ j3 < (data4.length : Int) then
 (Option.bind (data4[j3.toNat]?) fun e9 =>
 (if 0 ≤ i3 ∧ i3 < (data4.length : Int) then
 (Option.bind (data4[i3.toNat]?) fun e10 =>
 (if 0 ≤ i3 ∧ i3 < (data4.length : Int) then
 (Option.bind (data4[i3.toNat]?) fun e11 =>
 (if 0 ≤ j3 ∧ j3 < ((data4.set i3.toNat e9).length : Int) then
 (Option.bind ((data4.set i3.toNat e9)[j3.toNat]?) fun e12 =>
 (if fits (i3 + 1) then (if fits (j3 - 1) then (go (((data4.set i3.toNat e9).set j3.toNat e10), a4, cmp4, (i3 + 1), (j3 - 1))) else none) else none))
 else none))
 else none))
 else none))
 else none)))))
 else none))
 else none)
 else
 (bif (decide (j3 < i3)) then
 (some (i3, data4))
 else
 (if 0 ≤ j3 ∧ j3 < (data4.length : Int) then
 (Option.bind (data4[j3.toNat]?) fun e13 =>
 (if 0 ≤ i3 ∧ i3 < (data4.length : Int) then
 (Option.bind (data4[i3.toNat]?) fun e14 =>
 (if 0 ≤ i3 ∧ i3 < (data4.length : Int) then
 (Option.bind (data4[i3.toNat]?) fun e15 =>
 (if 0 ≤ j3 ∧ j3 < ((data4.set i3.toNat e13).length : Int) then
 (Option.bind ((data4.set i3.toNat e13)[j3.toNat]?) fun e16 =>
 (if fits (i3 + 1) then (if fits (j3 - 1) then (go (((data4.set i3.toNat e13).set j3.toNat e14), a4, cmp4, (i3 + 1), (j3 - 1))) else none) else none))
 else none))
 else none))
 else none))
 else none)))) N (data3, a3, cmp3, i2, j2)))))
 else none))
 else none)
 else
 (iter (fun go4 (g : Z4) =>
 match g with
 | (data5, a5, cmp5, i4, j4) =>
 (bif (decide (i4 ≤ j4)) then
 (if 0 ≤ a5 ∧ a5 < (data5.length : Int) then
 (Option.bind (data5[a5.toNat]?) fun e17 =>
 (if 0 ≤ j4 ∧ j4 < (data5.length : Int) then
 (Option.bind (data5[j4.toNat]?) fun e18 =>
 (Option.bind (i_LikeTerms_1_m N e17 e18 cmp5.1 cmp5.2.1 cmp5.2.2) fun r3 =>
 (bif (decide (r3 < 0)) then
 (if fits (j4 - 1) then (go4 (data5, a5, cmp5, i4, (j4 - 1))) else none)
 else
 (bif (decide (j4 < i4)) then
 (some (i4, data5))
 else
 (if 0 ≤ j4 ∧ j4 < (data5.length : Int) then
 (Option.bind (data5[j4.toNat]?) fun e19 =>
 (if 0 ≤ i4 ∧ i4 < (data5.length : Int) then
 (Option.bind (data5[i4.toNat]?) fun e20 =>
 (if 0 ≤ i4 ∧ i4 < (data5.length : Int) then
 (Option.bind (data5[i4.toNat]?) fun e21 =>
 (if 0 ≤ j4 ∧ j4 < ((data5.set i4.toNat e19).length : Int) then
 (Option.bind ((data5.set i4.toNat e19)[j4.toNat]?) fun e22 =>
 (if fits (i4 + 1) then (if fits (j4 - 1) then (go (((data5.set i4.toNat e19).set j4.toNat e20), a5, cmp5, (i4 + 1), (j4 - 1))) else none) else none))
 else none))
 else none))
 else none))
 else none)))))
 else none))
 else none)
 else
 (bif (decide (j4 < i4)) then
 (some (i4, data5))
 else
 (if 0 ≤ j4 ∧ j4 < (data5.length : Int) then
 (Option.bind (data5[j4.toNat]?) fun e23 =>
 (if 0 ≤ i4 ∧ i4 < (data5.length : Int) then
 (Option.bind (data5[i4.toNat]?) fun e24 =>
 (if 0 ≤ i4 ∧ i4 < (data5.length : Int) then
 (Option.bind (data5[i4.toNat]?) fun e25 =>
 (if 0 ≤ j4 ∧ j4 < ((data5.set i4.toNat e23).length : Int) then
 (Option.bind ((data5.set i4.toNat e23)[j4.toNat]?) fun e26 =>
 (if fits (i4 + 1) then (if fits (j4 - 1) then (go (((data5.set i4.toNat e23).set j4.toNat e24), a5, cmp5, (i4 + 1), (j4 - 1))) else none) else none))
 else none))
 else none))
 else none))
 else none)))) N (data3, a3, cmp3, i2, j2)))) N (data2, a2, cmp2, i, j))) N (((data.set a.toNat e).set pivot.toNat e2), a, cmp, (a + 1), (b - 1))) else none) else none))
 else none))
 else none))
 else none))
 else none)
def jjg (N : Nat) : Model := ⟨⟨[.mtk 800000 .str 9 true, .pv (.int .i64), .pv (.int .i64), .pv (.int .i64), .clo 43 [.ptr (.opt Y0), .ptr .str, .ptr (.int .i64)]], []⟩, ⟨[.pv (.int .i64), .mtk 800000 .str 9 true], []⟩, fun a => jcP N a.1 a.2.1 a.2.2.1 a.2.2.2.1 a.2.2.2.2⟩
theorem jsU (N : Nat) : ModelOk Tryz.prog 135 (jjg N) :=
 mO (fC (jag N) ja) Tryz.func135 rfl N (.seq .no (.seq .no (.seq .no (.seq (.block (.loop jmH (.block (.seq (.block (.loop js3 .no)) (.seq (.block (.loop jr0 .no)) .no))))) .no)))) (jjg N) (rs := [800000])
def jr2 : Sh := ⟨.mtk 800000 .str 9 true :: .pv (.int .i64) :: .dead :: .dead :: .clo 43 [.ptr (.opt Y0), .ptr .str, .ptr (.int .i64)] :: dz 7 (.pv (.int .i64) :: .pv (.int .i64) :: dz 164 []), []⟩
def jmh : Sh := ⟨.mtk 800000 .str 9 true :: .pv (.int .i64) :: .dead :: .dead :: .clo 43 [.ptr (.opt Y0), .ptr .str, .ptr (.int .i64)] :: dz 7 (.pv (.int .i64) :: .pv (.int .i64) :: dz 164 []), []⟩
def js5 : Sh := ⟨.mtk 800000 .str 9 true :: .pv (.int .i64) :: .dead :: .dead :: .clo 43 [.ptr (.opt Y0), .ptr .str, .ptr (.int .i64)] :: dz 7 (.pv (.int .i64) :: .pv (.int .i64) :: dz 164 []), []⟩
def jpN : Sh := ⟨.mtk 800000 .str 9 true :: .pv (.int .i64) :: .dead :: .dead :: .clo 43 [.ptr (.opt Y0), .ptr .str, .ptr (.int .i64)] :: dz 7 (.pv (.int .i64) :: .pv (.int .i64) :: dz 164 []), []⟩
def jop : Sh := ⟨.mtk 800000 .str 9 true :: .pv (.int .i64) :: .dead :: .dead :: .clo 43 [.ptr (.opt Y0), .ptr .str, .ptr (.int .i64)] :: dz 7 (.pv (.int .i64) :: .pv (.int .i64) :: dz 164 []), []⟩
def jc7 (N : Nat) (data : List Z0) (a : Int) (b : Int) (pivot : Int) (cmp : Z14) : Option (Int × Bool × (List Z0)) :=
 (if 0 ≤ pivot ∧ pivot < (data.length : Int) then
 (Option.bind (data[pivot.toNat]?) fun e =>
 (if 0 ≤ a ∧ a < (data.length : Int) then
 (Option.bind (data[a.toNat]?) fun e2 =>
 (if 0 ≤ a ∧ a < (data.length : Int) then
 (Option.bind (data[a.toNat]?) fun e3 =>
 (if 0 ≤ pivot ∧ pivot < ((data.set a.toNat e).length : Int) then
 (Option.bind ((data.set a.toNat e)[pivot.toNat]?) fun e4 =>
 (if fits (a + 1) then (if fits (b - 1) then (iter (fun go (g : Z4) =>
 match g with
 | (data2, a2, cmp2, i, j) =>
 (bif (decide (i ≤ j)) then
 (if 0 ≤ i ∧ i < (data2.length : Int) then
 (Option.bind (data2[i.toNat]?) fun e5 =>
 (if 0 ≤ a2 ∧ a2 < (data2.length : Int) then
 (Option.bind (data2[a2.toNat]?) fun e6 =>
 (Option.bind (i_LikeTerms_1_m N e5 e6 cmp2.1 cmp2.2.1 cmp2.2.2) fun r =>
 (bif (decide (r < 0)) then
 (if fits (i + 1) then (go (data2, a2, cmp2, (i + 1), j)) else none)
 else
 (iter (fun go2 (g : Z4) =>
 match g with
 | (data3, a3, cmp3, i2, j2) =>
 (bif (decide (i2 ≤ j2)) then
 (if 0 ≤ j2 ∧ j2 < (data3.length : Int) then
 (Option.bind (data3[j2.toNat]?) fun e7 =>
 (if 0 ≤ a3 ∧ a3 < (data3.length : Int) then
 (Option.bind (data3[a3.toNat]?) fun e8 =>
 (Option.bind (i_LikeTerms_1_m N e7 e8 cmp3.1 cmp3.2.1 cmp3.2.2) fun r2 =>
 (bif (!(decide (r2 < 0))) then
 (if fits (j2 - 1) then (go2 (data3, a3, cmp3, i2, (j2 - 1))) else none)
 else
 (bif (decide (j2 < i2)) then
 (if 0 ≤ a3 ∧ a3 < (data3.length : Int) then
 (Option.bind (data3[a3.toNat]?) fun e9 =>
 (if 0 ≤ j2 ∧ j2 < (data3.length : Int) then
 (Option.bind (data3[j2.toNat]?) fun e10 =>
 (if 0 ≤ j2 ∧ j2 < (data3.length : Int) then
 (Option.bind (data3[j2.toNat]?) fun e11 =>
 (if 0 ≤ a3 ∧ a3 < ((data3.set j2.toNat e9).length : Int) then
 (Option.bind ((data3.set j2.toNat e9)[a3.toNat]?) fun e12 =>
 (some (j2, true, ((data3.set j2.toNat e9).set a3.toNat e10))))
 else none))
 else none))
 else none))
 else none)
 else
 (if 0 ≤ j2 ∧ j2 < (data3.length : Int) then
 (Option.bind (data3[j2.toNat]?) fun e13 =>
 (if 0 ≤ i2 ∧ i2 < (data3.length : Int) then
 (Option.bind (data3[i2.toNat]?) fun e14 =>
 (if 0 ≤ i2 ∧ i2 < (data3.length : Int) then
 (Option.bind (data3[i2.toNat]?) fun e15 =>
 (if 0 ≤ j2 ∧ j2 < ((data3.set i2.toNat e13).length : Int) then
 (Option.bind ((data3.set i2.toNat e13)[j2.toNat]?) fun e16 =>
 (if fits (i2 + 1) then (if fits (j2 - 1) then (iter (fun go3 (g : Z4) =>
 match g with
 | (data4, a4, cmp4, i3, j3) =>
 (iter (fun go4 (g : Z4) =>
 match g with
 | (data5, a5, cmp5, i4, j4) =>
 (bif (decide (i4 ≤ j4)) then
 (if 0 ≤ i4 ∧ i4 < (data5.length : Int) then
 (Option.bind (data5[i4.toNat]?) fun e17 =>
 (if 0 ≤ a5 ∧ a5 < (data5.length : Int) then
 (Option.bind (data5[a5.toNat]?) fun e18 =>
 (Option.bind (i_LikeTerms_1_m N e17 e18 cmp5.1 cmp5.2.1 cmp5.2.2) fun r3 =>
 (bif (decide (r3 < 0)) then
 (if fits (i4 + 1) then (go4 (data5, a5, cmp5, (i4 + 1), j4)) else none)
 else
 (iter (fun go5 (g : Z4) =>
 match g with
 | (data6, a6, cmp6, i5, j5) =>
 (bif (decide (i5 ≤ j5)) then
 (if 0 ≤ j5 ∧ j5 < (data6.length : Int) then
 (Option.bind (data6[j5.toNat]?) fun e19 =>
 (if 0 ≤ a6 ∧ a6 < (data6.length : Int) then
 (Option.bind (data6[a6.toNat]?) fun e20 =>
 (Option.bind (i_LikeTerms_1_m N e19 e20 cmp6.1 cmp6.2.1 cmp6.2.2) fun r4 =>
 (bif (!(decide (r4 < 0))) then
 (if fits (j5 - 1) then (go5 (data6, a6, cmp6, i5, (j5 - 1))) else none)
 else
 (bif (decide (j5 < i5)) then
 (if 0 ≤ a6 ∧ a6 < (data6.length : Int) then
 (Option.bind (data6[a6.toNat]?) fun e21 =>
 (if 0 ≤ j5 ∧ j5 < (data6.length : Int) then
 (Option.bind (data6[j5.toNat]?) fun e22 =>
 (if 0 ≤ j5 ∧ j5 < (data6.length : Int) then
 (Option.bind (data6[j5.toNat]?) fun e23 =>
 (if 0 ≤ a6 ∧ a6 < ((data6.set j5.toNat e21).length : Int) then
 (Option.bind ((data6.set j5.toNat e21)[a6.toNat]?) fun e24 =>
 (some (j5, false, ((data6.set j5.toNat e21).set a6.toNat e22))))
 else none))
 else none))
 else none))
 else none)
 else
 (if 0 ≤ j5 ∧ j5 < (data6.length : Int) then
 (Option.bind (data6[j5.toNat]?) fun e25 =>
 (if 0 ≤ i5 ∧ i5 < (data6.length : Int) then
 (Option.bind (data6[i5.toNat]?) fun e26 =>
 (if 0 ≤ i5 ∧ i5 < (data6.length : Int) then
 (Option.bind (data6[i5.toNat]?) fun e27 =>
 (if 0 ≤ j5 ∧ j5 < ((data6.set i5.toNat e25).length : Int) then
 (Option.bind ((data6.set i5.toNat e25)[j5.toNat]?) fun e28 =>
 (if fits (i5 + 1) then (if fits (j5 - 1) then (go3 (((data6.set i5.toNat e25).set j5.toNat e26), a6, cmp6, (i5 + 1), (j5 - 1))) else none) else none))
 else none))
 else none))
 else none))
 else none)))))
 else none))
 else none)
 else
 (bif (decide (j5 < i5)) then
 (if 0 ≤ a6 ∧ a6 < (data6.length : Int) then
 (Option.bind (data6[a6.toNat]?) fun e29 =>
 (if 0 ≤ j5 ∧ j5 < (data6.length : Int) then
 (Option.bind (data6[j5.toNat]?) fun e30 =>
 (if 0 ≤ j5 ∧ j5 < (data6.length : Int) then
 (Option.bind (data6[j5.toNat]?) fun e31 =>
 (if 0 ≤ a6 ∧ a6 < ((data6.set j5.toNat e29).length : Int) then
 (Option.bind ((data6.set j5.toNat e29)[a6.toNat]?) fun e32 =>
 (some (j5, false, ((data6.set j5.toNat e29).set a6.toNat e30))))
 else none))
 else none))
 else none))
 else none)
 else
 (if 0 ≤ j5 ∧ j5 < (data6.length : Int) then
 (Option.bind (data6[j5.toNat]?) fun e33 =>
 (if 0 ≤ i5 ∧ i5 < (data6.length : Int) then
 (Option.bind (data6[i5.toNat]?) fun e34 =>
 (if 0 ≤ i5 ∧ i5 < (data6.length : Int) then
 (Option.bind (data6[i5.toNat]?) fun e35 =>
 (if 0 ≤ j5 ∧ j5 < ((data6.set i5.toNat e33).length : Int) then
 (Option.bind ((data6.set i5.toNat e33)[j5.toNat]?) fun e36 =>
 (if fits (i5 + 1) then (if fits (j5 - 1) then (go3 (((data6.set i5.toNat e33).set j5.toNat e34), a6, cmp6, (i5 + 1), (j5 - 1))) else none) else none))
 else none))
 else none))
 else none))
 else none)))) N (data5, a5, cmp5, i4, j4)))))
 else none))
 else none)
 else
 (iter (fun go6 (g : Z4) =>
 match g with
 | (data7, a7, cmp7, i6, j6) =>
 (bif (decide (i6 ≤ j6)) then
 (if 0 ≤ j6 ∧ j6 < (data7.length : Int) then
 (Option.bind (data7[j6.toNat]?) fun e37 =>
 (if 0 ≤ a7 ∧ a7 < (data7.length : Int) then
 (Option.bind (data7[a7.toNat]?) fun e38 =>
 (Option.bind (i_LikeTerms_1_m N e37 e38 cmp7.1 cmp7.2.1 cmp7.2.2) fun r5 =>
 (bif (!(decide (r5 < 0))) then
 (if fits (j6 - 1) then (go6 (data7, a7, cmp7, i6, (j6 - 1))) else none)
 else
 (bif (decide (j6 < i6)) then
 (if 0 ≤ a7 ∧ a7 < (data7.length : Int) then
 (Option.bind (data7[a7.toNat]?) fun e39 =>
 (if 0 ≤ j6 ∧ j6 < (data7.length : Int) then
 (Option.bind (data7[j6.toNat]?) fun e40 =>
 (if 0 ≤ j6 ∧ j6 < (data7.length : Int) then
 (Option.bind (data7[j6.toNat]?) fun e41 =>
 (if 0 ≤ a7 ∧ a7 < ((data7.set j6.toNat e39).length : Int) then
 (Option.bind ((data7.set j6.toNat e39)[a7.toNat]?) fun e42 =>
 (some (j6, false, ((data7.set j6.toNat e39).set a7.toNat e40))))
 else none))
 else none))
 else none))
 else none)
 else
 (if 0 ≤ j6 ∧ j6 < (data7.length : Int) then
 (Option.bind (data7[j6.toNat]?) fun e43 =>
 (if 0 ≤ i6 ∧ i6 < (data7.length : Int) then
 (Option.bind (data7[i6.toNat]?) fun e44 =>
 (if 0 ≤ i6 ∧ i6 < (data7.length : Int) then
 (Option.bind (data7[i6.toNat]?) fun e45 =>
 (if 0 ≤ j6 ∧ j6 < ((data7.set i6.toNat e43).length : Int) then
 (Option.bind ((data7.set i6.toNat e43)[j6.toNat]?) fun e46 =>
 (if fits (i6 + 1) then (if fits (j6 - 1) then (go3 (((data7.set i6.toNat e43).set j6.toNat e44), a7, cmp7, (i6 + 1), (j6 - 1))) else none) else none))
 else none))
 else none))
 else none))
 else none)))))
 else none))
 else none)
 else
 (bif (decide (j6 < i6)) then
 (if 0 ≤ a7 ∧ a7 < (data7.length : Int) then
 (Option.bind (data7[a7.toNat]?) fun e47 =>
 (if 0 ≤ j6 ∧ j6 < (data7.length : Int) then
 (Option.bind (data7[j6.toNat]?) fun e48 =>
 (if 0 ≤ j6 ∧ j6 < (data7.length : Int) then
 (Option.bind (data7[j6.toNat]?) fun e49 =>
 (if 0 ≤ a7 ∧ a7 < ((data7.set j6.toNat e47).length : Int) then
 (Option.bind ((data7.set j6.toNat e47)[a7.toNat]?) fun e50 =>
 (some (j6, false, ((data7.set j6.toNat e47).set a7.toNat e48))))
 else none))
 else none))
 else none))
 else none)
 else
 (if 0 ≤ j6 ∧ j6 < (data7.length : Int) then
 (Option.bind (data7[j6.toNat]?) fun e51 =>
 (if 0 ≤ i6 ∧ i6 < (data7.length : Int) then
 (Option.bind (data7[i6.toNat]?) fun e52 =>
 (if 0 ≤ i6 ∧ i6 < (data7.length : Int) then
 (Option.bind (data7[i6.toNat]?) fun e53 =>
 (if 0 ≤ j6 ∧ j6 < ((data7.set i6.toNat e51).length : Int) then
 (Option.bind ((data7.set i6.toNat e51)[j6.toNat]?) fun e54 =>
 (if fits (i6 + 1) then (if fits (j6 - 1) then (go3 (((data7.set i6.toNat e51).set j6.toNat e52), a7, cmp7, (i6 + 1), (j6 - 1))) else none) else none))
 else none))
 else none))
 else none))
 else none)))) N (data5, a5, cmp5, i4, j4)))) N (data4, a4, cmp4, i3, j3))) N (((data3.set i2.toNat e13).set j2.toNat e14), a3, cmp3, (i2 + 1), (j2 - 1))) else none) else none))
 else none))
 else none))
 else none))
 else none)))))
 else none))
 else none)
 else
 (bif (decide (j2 < i2)) then
 (if 0 ≤ a3 ∧ a3 < (data3.length : Int) then
 (Option.bind (data3[a3.toNat]?) fun e55 =>
 (if 0 ≤ j2 ∧ j2 < (data3.length : Int) then
 (Option.bind (data3[j2.toNat]?) fun e56 =>
 (if 0 ≤ j2 ∧ j2 < (data3.length : Int) then
 (Option.bind (data3[j2.toNat]?) fun e57 =>
 (if 0 ≤ a3 ∧ a3 < ((data3.set j2.toNat e55).length : Int) then
 (Option.bind ((data3.set j2.toNat e55)[a3.toNat]?) fun e58 =>
 (some (j2, true, ((data3.set j2.toNat e55).set a3.toNat e56))))
 else none))
 else none))
 else none))
 else none)
 else
 (if 0 ≤ j2 ∧ j2 < (data3.length : Int) then
 (Option.bind (data3[j2.toNat]?) fun e59 =>
 (if 0 ≤ i2 ∧ i2 < (data3.length : Int) then
 (Option.bind (data3[i2.toNat]?) fun e60 =>
 (if 0 ≤ i2 ∧ i2 < (data3.length : Int) then
 (Option.bind (data3[i2.toNat]?) fun e61 =>
 (if 0 ≤ j2 ∧ j2 < ((data3.set i2.toNat e59).length : Int) then
 (Option.bind ((data3.set i2.toNat e59)[j2.toNat]?) fun e62 =>
 (if fits (i2 + 1) then (if fits (j2 - 1) then (iter (fun go7 (g : Z4) =>
 match g with
 | (data8, a8, cmp8, i7, j7) =>
 (iter (fun go8 (g : Z4) =>
 match g with
 | (data9, a9, cmp9, i8, j8) =>
 (bif (decide (i8 ≤ j8)) then
 (if 0 ≤ i8 ∧ i8 < (data9.length : Int) then
 (Option.bind (data9[i8.toNat]?) fun e63 =>
 (if 0 ≤ a9 ∧ a9 < (data9.length : Int) then
 (Option.bind (data9[a9.toNat]?) fun e64 =>
 (Option.bind (i_LikeTerms_1_m N e63 e64 cmp9.1 cmp9.2.1 cmp9.2.2) fun r6 =>
 (bif (decide (r6 < 0)) then
 (if fits (i8 + 1) then (go8 (data9, a9, cmp9, (i8 + 1), j8)) else none)
 else
 (iter (fun go9 (g : Z4) =>
 match g with
 | (data10, a10, cmp10, i9, j9) =>
 (bif (decide (i9 ≤ j9)) then
 (if 0 ≤ j9 ∧ j9 < (data10.length : Int) then
 (Option.bind (data10[j9.toNat]?) fun e65 =>
 (if 0 ≤ a10 ∧ a10 < (data10.length : Int) then
 (Option.bind (data10[a10.toNat]?) fun e66 =>
 (Option.bind (i_LikeTerms_1_m N e65 e66 cmp10.1 cmp10.2.1 cmp10.2.2) fun r7 =>
 (bif (!(decide (r7 < 0))) then
 (if fits (j9 - 1) then (go9 (data10, a10, cmp10, i9, (j9 - 1))) else none)
 else
 (bif (decide (j9 < i9)) then
 (if 0 ≤ a10 ∧ a10 < (data10.length : Int) then
 (Option.bind (data10[a10.toNat]?) fun e67 =>
 (if 0 ≤ j9 ∧ j9 < (data10.length : Int) then
 (Option.bind (data10[j9.toNat]?) fun e68 =>
 (if 0 ≤ j9 ∧ j9 < (data10.length : Int) then
 (Option.bind (data10[j9.toNat]?) fun e69 =>
 (if 0 ≤ a10 ∧ a10 < ((data10.set j9.toNat e67).length : Int) then
 (Option.bind ((data10.set j9.toNat e67)[a10.toNat]?) fun e70 =>
 (some (j9, false, ((data10.set j9.toNat e67).set a10.toNat e68))))
 else none))
 else none))
 else none))
 else none)
 else
 (if 0 ≤ j9 ∧ j9 < (data10.length : Int) then
 (Option.bind (data10[j9.toNat]?) fun e71 =>
 (if 0 ≤ i9 ∧ i9 < (data10.length : Int) then
 (Option.bind (data10[i9.toNat]?) fun e72 =>
 (if 0 ≤ i9 ∧ i9 < (data10.length : Int) then
 (Option.bind (data10[i9.toNat]?) fun e73 =>
 (if 0 ≤ j9 ∧ j9 < ((data10.set i9.toNat e71).length : Int) then
 (Option.bind ((data10.set i9.toNat e71)[j9.toNat]?) fun e74 =>
 (if fits (i9 + 1) then (if fits (j9 - 1) then (go7 (((data10.set i9.toNat e71).set j9.toNat e72), a10, cmp10, (i9 + 1), (j9 - 1))) else none) else none))
 else none))
 else none))
 else none))
 else none)))))
 else none))
 else none)
 else
 (bif (decide (j9 < i9)) then
 (if 0 ≤ a10 ∧ a10 < (data10.length : Int) then
 (Option.bind (data10[a10.toNat]?) fun e75 =>
 (if 0 ≤ j9 ∧ j9 < (data10.length : Int) then
 (Option.bind (data10[j9.toNat]?) fun e76 =>
 (if 0 ≤ j9 ∧ j9 < (data10.length : Int) then
 (Option.bind (data10[j9.toNat]?) fun e77 =>
 (if 0 ≤ a10 ∧ a10 < ((data10.set j9.toNat e75).length : Int) then
 (Option.bind ((data10.set j9.toNat e75)[a10.toNat]?) fun e78 =>
 (some (j9, false, ((data10.set j9.toNat e75).set a10.toNat e76))))
 else none))
 else none))
 else none))
 else none)
 else
 (if 0 ≤ j9 ∧ j9 < (data10.length : Int) then
 (Option.bind (data10[j9.toNat]?) fun e79 =>
 (if 0 ≤ i9 ∧ i9 < (data10.length : Int) then
 (Option.bind (data10[i9.toNat]?) fun e80 =>
 (if 0 ≤ i9 ∧ i9 < (data10.length : Int) then
 (Option.bind (data10[i9.toNat]?) fun e81 =>
 (if 0 ≤ j9 ∧ j9 < ((data10.set i9.toNat e79).length : Int) then
 (Option.bind ((data10.set i9.toNat e79)[j9.toNat]?) fun e82 =>
 (if fits (i9 + 1) then (if fits (j9 - 1) then (go7 (((data10.set i9.toNat e79).set j9.toNat e80), a10, cmp10, (i9 + 1), (j9 - 1))) else none) else none))
 else none))
 else none))
 else none))
 else none)))) N (data9, a9, cmp9, i8, j8)))))
 else none))
 else none)
 else
 (iter (fun go10 (g : Z4) =>
 match g with
 | (data11, a11, cmp11, i10, j10) =>
 (bif (decide (i10 ≤ j10)) then
 (if 0 ≤ j10 ∧ j10 < (data11.length : Int) then
 (Option.bind (data11[j10.toNat]?) fun e83 =>
 (if 0 ≤ a11 ∧ a11 < (data11.length : Int) then
 (Option.bind (data11[a11.toNat]?) fun e84 =>
 (Option.bind (i_LikeTerms_1_m N e83 e84 cmp11.1 cmp11.2.1 cmp11.2.2) fun r8 =>
 (bif (!(decide (r8 < 0))) then
 (if fits (j10 - 1) then (go10 (data11, a11, cmp11, i10, (j10 - 1))) else none)
 else
 (bif (decide (j10 < i10)) then
 (if 0 ≤ a11 ∧ a11 < (data11.length : Int) then
 (Option.bind (data11[a11.toNat]?) fun e85 =>
 (if 0 ≤ j10 ∧ j10 < (data11.length : Int) then
 (Option.bind (data11[j10.toNat]?) fun e86 =>
 (if 0 ≤ j10 ∧ j10 < (data11.length : Int) then
 (Option.bind (data11[j10.toNat]?) fun e87 =>
 (if 0 ≤ a11 ∧ a11 < ((data11.set j10.toNat e85).length : Int) then
 (Option.bind ((data11.set j10.toNat e85)[a11.toNat]?) fun e88 =>
 (some (j10, false, ((data11.set j10.toNat e85).set a11.toNat e86))))
 else none))
 else none))
 else none))
 else none)
 else
 (if 0 ≤ j10 ∧ j10 < (data11.length : Int) then
 (Option.bind (data11[j10.toNat]?) fun e89 =>
 (if 0 ≤ i10 ∧ i10 < (data11.length : Int) then
 (Option.bind (data11[i10.toNat]?) fun e90 =>
 (if 0 ≤ i10 ∧ i10 < (data11.length : Int) then
 (Option.bind (data11[i10.toNat]?) fun e91 =>
 (if 0 ≤ j10 ∧ j10 < ((data11.set i10.toNat e89).length : Int) then
 (Option.bind ((data11.set i10.toNat e89)[j10.toNat]?) fun e92 =>
 (if fits (i10 + 1) then (if fits (j10 - 1) then (go7 (((data11.set i10.toNat e89).set j10.toNat e90), a11, cmp11, (i10 + 1), (j10 - 1))) else none) else none))
 else none))
 else none))
 else none))
 else none)))))
 else none))
 else none)
 else
 (bif (decide (j10 < i10)) then
 (if 0 ≤ a11 ∧ a11 < (data11.length : Int) then
 (Option.bind (data11[a11.toNat]?) fun e93 =>
 (if 0 ≤ j10 ∧ j10 < (data11.length : Int) then
 (Option.bind (data11[j10.toNat]?) fun e94 =>
 (if 0 ≤ j10 ∧ j10 < (data11.length : Int) then
 (Option.bind (data11[j10.toNat]?) fun e95 =>
 (if 0 ≤ a11 ∧ a11 < ((data11.set j10.toNat e93).length : Int) then
 (Option.bind ((data11.set j10.toNat e93)[a11.toNat]?) fun e96 =>
 (some (j10, false, ((data11.set j10.toNat e93).set a11.toNat e94))))
 else none))
 else none))
 else none))
 else none)
 else
 (if 0 ≤ j10 ∧ j10 < (data11.length : Int) then
 (Option.bind (data11[j10.toNat]?) fun e97 =>
 (if 0 ≤ i10 ∧ i10 < (data11.length : Int) then
 (Option.bind (data11[i10.toNat]?) fun e98 =>
 (if 0 ≤ i10 ∧ i10 < (data11.length : Int) then
 (Option.bind (data11[i10.toNat]?) fun e99 =>
 (if 0 ≤ j10 ∧ j10 < ((data11.set i10.toNat e97).length : Int) then
 (Option.bind ((data11.set i10.toNat e97)[j10.toNat]?) fun e100 =>
 (if fits (i10 + 1) then (if fits (j10 - 1) then (go7 (((data11.set i10.toNat e97).set j10.toNat e98), a11, cmp11, (i10 + 1), (j10 - 1))) else none) else none))
 else none))
 else none))
 else none))
 else none)))) N (data9, a9, cmp9, i8, j8)))) N (data8, a8, cmp8, i7, j7))) N (((data3.set i2.toNat e59).set j2.toNat e60), a3, cmp3, (i2 + 1), (j2 - 1))) else none) else none))
 else none))
 else none))
 else none))
 else none)))) N (data2, a2, cmp2, i, j)))))
 else none))
 else none)
 else
 (iter (fun go11 (g : Z4) =>
 match g with
 | (data12, a12, cmp12, i11, j11) =>
 (bif (decide (i11 ≤ j11)) then
 (if 0 ≤ j11 ∧ j11 < (data12.length : Int) then
 (Option.bind (data12[j11.toNat]?) fun e101 =>
 (if 0 ≤ a12 ∧ a12 < (data12.length : Int) then
 (Option.bind (data12[a12.toNat]?) fun e102 =>
 (Option.bind (i_LikeTerms_1_m N e101 e102 cmp12.1 cmp12.2.1 cmp12.2.2) fun r9 =>
 (bif (!(decide (r9 < 0))) then
 (if fits (j11 - 1) then (go11 (data12, a12, cmp12, i11, (j11 - 1))) else none)
 else
 (bif (decide (j11 < i11)) then
 (if 0 ≤ a12 ∧ a12 < (data12.length : Int) then
 (Option.bind (data12[a12.toNat]?) fun e103 =>
 (if 0 ≤ j11 ∧ j11 < (data12.length : Int) then
 (Option.bind (data12[j11.toNat]?) fun e104 =>
 (if 0 ≤ j11 ∧ j11 < (data12.length : Int) then
 (Option.bind (data12[j11.toNat]?) fun e105 =>
 (if 0 ≤ a12 ∧ a12 < ((data12.set j11.toNat e103).length : Int) then
 (Option.bind ((data12.set j11.toNat e103)[a12.toNat]?) fun e106 =>
 (some (j11, true, ((data12.set j11.toNat e103).set a12.toNat e104))))
 else none))
 else none))
 else none))
 else none)
 else
 (if 0 ≤ j11 ∧ j11 < (data12.length : Int) then
 (Option.bind (data12[j11.toNat]?) fun e107 =>
 (if 0 ≤ i11 ∧ i11 < (data12.length : Int) then
 (Option.bind (data12[i11.toNat]?) fun e108 =>
 (if 0 ≤ i11 ∧ i11 < (data12.length : Int) then
 (Option.bind (data12[i11.toNat]?) fun e109 =>
 (if 0 ≤ j11 ∧ j11 < ((data12.set i11.toNat e107).length : Int) then
 (Option.bind ((data12.set i11.toNat e107)[j11.toNat]?) fun e110 =>
 (if fits (i11 + 1) then (if fits (j11 - 1) then (iter (fun go12 (g : Z4) =>
 match g with
 | (data13, a13, cmp13, i12, j12) =>
 (iter (fun go13 (g : Z4) =>
 match g with
 | (data14, a14, cmp14, i13, j13) =>
 (bif (decide (i13 ≤ j13)) then
 (if 0 ≤ i13 ∧ i13 < (data14.length : Int) then
 (Option.bind (data14[i13.toNat]?) fun e111 =>
 (if 0 ≤ a14 ∧ a14 < (data14.length : Int) then
 (Option.bind (data14[a14.toNat]?) fun e112 =>
 (Option.bind (i_LikeTerms_1_m N e111 e112 cmp14.1 cmp14.2.1 cmp14.2.2) fun r10 =>
 (bif (decide (r10 < 0)) then
 (if fits (i13 + 1) then (go13 (data14, a14, cmp14, (i13 + 1), j13)) else none)
 else
 (iter (fun go14 (g : Z4) =>
 match g with
 | (data15, a15, cmp15, i14, j14) =>
 (bif (decide (i14 ≤ j14)) then
 (if 0 ≤ j14 ∧ j14 < (data15.length : Int) then
 (Option.bind (data15[j14.toNat]?) fun e113 =>
 (if 0 ≤ a15 ∧ a15 < (data15.length : Int) then
 (Option.bind (data15[a15.toNat]?) fun e114 =>
 (Option.bind (i_LikeTerms_1_m N e113 e114 cmp15.1 cmp15.2.1 cmp15.2.2) fun r11 =>
 (bif (!(decide (r11 < 0))) then
 (if fits (j14 - 1) then (go14 (data15, a15, cmp15, i14, (j14 - 1))) else none)
 else
 (bif (decide (j14 < i14)) then
 (if 0 ≤ a15 ∧ a15 < (data15.length : Int) then
 (Option.bind (data15[a15.toNat]?) fun e115 =>
 (if 0 ≤ j14 ∧ j14 < (data15.length : Int) then
 (Option.bind (data15[j14.toNat]?) fun e116 =>
 (if 0 ≤ j14 ∧ j14 < (data15.length : Int) then
 (Option.bind (data15[j14.toNat]?) fun e117 =>
 (if 0 ≤ a15 ∧ a15 < ((data15.set j14.toNat e115).length : Int) then
 (Option.bind ((data15.set j14.toNat e115)[a15.toNat]?) fun e118 =>
 (some (j14, false, ((data15.set j14.toNat e115).set a15.toNat e116))))
 else none))
 else none))
 else none))
 else none)
 else
 (if 0 ≤ j14 ∧ j14 < (data15.length : Int) then
 (Option.bind (data15[j14.toNat]?) fun e119 =>
 (if 0 ≤ i14 ∧ i14 < (data15.length : Int) then
 (Option.bind (data15[i14.toNat]?) fun e120 =>
 (if 0 ≤ i14 ∧ i14 < (data15.length : Int) then
 (Option.bind (data15[i14.toNat]?) fun e121 =>
 (if 0 ≤ j14 ∧ j14 < ((data15.set i14.toNat e119).length : Int) then
 (Option.bind ((data15.set i14.toNat e119)[j14.toNat]?) fun e122 =>
 (if fits (i14 + 1) then (if fits (j14 - 1) then (go12 (((data15.set i14.toNat e119).set j14.toNat e120), a15, cmp15, (i14 + 1), (j14 - 1))) else none) else none))
 else none))
 else none))
 else none))
 else none)))))
 else none))
 else none)
 else
 (bif (decide (j14 < i14)) then
 (if 0 ≤ a15 ∧ a15 < (data15.length : Int) then
 (Option.bind (data15[a15.toNat]?) fun e123 =>
 (if 0 ≤ j14 ∧ j14 < (data15.length : Int) then
 (Option.bind (data15[j14.toNat]?) fun e124 =>
 (if 0 ≤ j14 ∧ j14 < (data15.length : Int) then
 (Option.bind (data15[j14.toNat]?) fun e125 =>
 (if 0 ≤ a15 ∧ a15 < ((data15.set j14.toNat e123).length : Int) then
 (Option.bind ((data15.set j14.toNat e123)[a15.toNat]?) fun e126 =>
 (some (j14, false, ((data15.set j14.toNat e123).set a15.toNat e124))))
 else none))
 else none))
 else none))
 else none)
 else
 (if 0 ≤ j14 ∧ j14 < (data15.length : Int) then
 (Option.bind (data15[j14.toNat]?) fun e127 =>
 (if 0 ≤ i14 ∧ i14 < (data15.length : Int) then
 (Option.bind (data15[i14.toNat]?) fun e128 =>
 (if 0 ≤ i14 ∧ i14 < (data15.length : Int) then
 (Option.bind (data15[i14.toNat]?) fun e129 =>
 (if 0 ≤ j14 ∧ j14 < ((data15.set i14.toNat e127).length : Int) then
 (Option.bind ((data15.set i14.toNat e127)[j14.toNat]?) fun e130 =>
 (if fits (i14 + 1) then (if fits (j14 - 1) then (go12 (((data15.set i14.toNat e127).set j14.toNat e128), a15, cmp15, (i14 + 1), (j14 - 1))) else none) else none))
 else none))
 else none))
 else none))
 else none)))) N (data14, a14, cmp14, i13, j13)))))
 else none))
 else none)
 else
 (iter (fun go15 (g : Z4) =>
 match g with
 | (data16, a16, cmp16, i15, j15) =>
 (bif (decide (i15 ≤ j15)) then
 (if 0 ≤ j15 ∧ j15 < (data16.length : Int) then
 (Option.bind (data16[j15.toNat]?) fun e131 =>
 (if 0 ≤ a16 ∧ a16 < (data16.length : Int) then
 (Option.bind (data16[a16.toNat]?) fun e132 =>
 (Option.bind (i_LikeTerms_1_m N e131 e132 cmp16.1 cmp16.2.1 cmp16.2.2) fun r12 =>
 (bif (!(decide (r12 < 0))) then
 (if fits (j15 - 1) then (go15 (data16, a16, cmp16, i15, (j15 - 1))) else none)
 else
 (bif (decide (j15 < i15)) then
 (if 0 ≤ a16 ∧ a16 < (data16.length : Int) then
 (Option.bind (data16[a16.toNat]?) fun e133 =>
 (if 0 ≤ j15 ∧ j15 < (data16.length : Int) then
 (Option.bind (data16[j15.toNat]?) fun e134 =>
 (if 0 ≤ j15 ∧ j15 < (data16.length : Int) then
 (Option.bind (data16[j15.toNat]?) fun e135 =>
 (if 0 ≤ a16 ∧ a16 < ((data16.set j15.toNat e133).length : Int) then
 (Option.bind ((data16.set j15.toNat e133)[a16.toNat]?) fun e136 =>
 (some (j15, false, ((data16.set j15.toNat e133).set a16.toNat e134))))
 else none))
 else none))
 else none))
 else none)
 else
 (if 0 ≤ j15 ∧ j15 < (data16.length : Int) then
 (Option.bind (data16[j15.toNat]?) fun e137 =>
 (if 0 ≤ i15 ∧ i15 < (data16.length : Int) then
 (Option.bind (data16[i15.toNat]?) fun e138 =>
 (if 0 ≤ i15 ∧ i15 < (data16.length : Int) then
 (Option.bind (data16[i15.toNat]?) fun e139 =>
 (if 0 ≤ j15 ∧ j15 < ((data16.set i15.toNat e137).length : Int) then
 (Option.bind ((data16.set i15.toNat e137)[j15.toNat]?) fun e140 =>
 (if fits (i15 + 1) then (if fits (j15 - 1) then (go12 (((data16.set i15.toNat e137).set j15.toNat e138), a16, cmp16, (i15 + 1), (j15 - 1))) else none) else none))
 else none))
 else none))
 else none))
 else none)))))
 else none))
 else none)
 else
 (bif (decide (j15 < i15)) then
 (if 0 ≤ a16 ∧ a16 < (data16.length : Int) then
 (Option.bind (data16[a16.toNat]?) fun e141 =>
 (if 0 ≤ j15 ∧ j15 < (data16.length : Int) then
 (Option.bind (data16[j15.toNat]?) fun e142 =>
 (if 0 ≤ j15 ∧ j15 < (data16.length : Int) then
 (Option.bind (data16[j15.toNat]?) fun e143 =>
 (if 0 ≤ a16 ∧ a16 < ((data16.set j15.toNat e141).length : Int) then
 (Option.bind ((data16.set j15.toNat e141)[a16.toNat]?) fun e144 =>
 (some (j15, false, ((data16.set j15.toNat e141).set a16.toNat e142))))
 else none))
 else none))
 else none))
 else none)
 else
 (if 0 ≤ j15 ∧ j15 < (data16.length : Int) then
 (Option.bind (data16[j15.toNat]?) fun e145 =>
 (if 0 ≤ i15 ∧ i15 < (data16.length : Int) then
 (Option.bind (data16[i15.toNat]?) fun e146 =>
 (if 0 ≤ i15 ∧ i15 < (data16.length : Int) then
 (Option.bind (data16[i15.toNat]?) fun e147 =>
 (if 0 ≤ j15 ∧ j15 < ((data16.set i15.toNat e145).length : Int) then
 (Option.bind ((data16.set i15.toNat e145)[j15.toNat]?) fun e148 =>
 (if fits (i15 + 1) then (if fits (j15 - 1) then (go12 (((data16.set i15.toNat e145).set j15.toNat e146), a16, cmp16, (i15 + 1), (j15 - 1))) else none) else none))
 else none))
 else none))
 else none))
 else none)))) N (data14, a14, cmp14, i13, j13)))) N (data13, a13, cmp13, i12, j12))) N (((data12.set i11.toNat e107).set j11.toNat e108), a12, cmp12, (i11 + 1), (j11 - 1))) else none) else none))
 else none))
 else none))
 else none))
 else none)))))
 else none))
 else none)
 else
 (bif (decide (j11 < i11)) then
 (if 0 ≤ a12 ∧ a12 < (data12.length : Int) then
 (Option.bind (data12[a12.toNat]?) fun e149 =>
 (if 0 ≤ j11 ∧ j11 < (data12.length : Int) then
 (Option.bind (data12[j11.toNat]?) fun e150 =>
 (if 0 ≤ j11 ∧ j11 < (data12.length : Int) then
 (Option.bind (data12[j11.toNat]?) fun e151 =>
 (if 0 ≤ a12 ∧ a12 < ((data12.set j11.toNat e149).length : Int) then
 (Option.bind ((data12.set j11.toNat e149)[a12.toNat]?) fun e152 =>
 (some (j11, true, ((data12.set j11.toNat e149).set a12.toNat e150))))
 else none))
 else none))
 else none))
 else none)
 else
 (if 0 ≤ j11 ∧ j11 < (data12.length : Int) then
 (Option.bind (data12[j11.toNat]?) fun e153 =>
 (if 0 ≤ i11 ∧ i11 < (data12.length : Int) then
 (Option.bind (data12[i11.toNat]?) fun e154 =>
 (if 0 ≤ i11 ∧ i11 < (data12.length : Int) then
 (Option.bind (data12[i11.toNat]?) fun e155 =>
 (if 0 ≤ j11 ∧ j11 < ((data12.set i11.toNat e153).length : Int) then
 (Option.bind ((data12.set i11.toNat e153)[j11.toNat]?) fun e156 =>
 (if fits (i11 + 1) then (if fits (j11 - 1) then (iter (fun go16 (g : Z4) =>
 match g with
 | (data17, a17, cmp17, i16, j16) =>
 (iter (fun go17 (g : Z4) =>
 match g with
 | (data18, a18, cmp18, i17, j17) =>
 (bif (decide (i17 ≤ j17)) then
 (if 0 ≤ i17 ∧ i17 < (data18.length : Int) then
 (Option.bind (data18[i17.toNat]?) fun e157 =>
 (if 0 ≤ a18 ∧ a18 < (data18.length : Int) then
 (Option.bind (data18[a18.toNat]?) fun e158 =>
 (Option.bind (i_LikeTerms_1_m N e157 e158 cmp18.1 cmp18.2.1 cmp18.2.2) fun r13 =>
 (bif (decide (r13 < 0)) then
 (if fits (i17 + 1) then (go17 (data18, a18, cmp18, (i17 + 1), j17)) else none)
 else
 (iter (fun go18 (g : Z4) =>
 match g with
 | (data19, a19, cmp19, i18, j18) =>
 (bif (decide (i18 ≤ j18)) then
 (if 0 ≤ j18 ∧ j18 < (data19.length : Int) then
 (Option.bind (data19[j18.toNat]?) fun e159 =>
 (if 0 ≤ a19 ∧ a19 < (data19.length : Int) then
 (Option.bind (data19[a19.toNat]?) fun e160 =>
 (Option.bind (i_LikeTerms_1_m N e159 e160 cmp19.1 cmp19.2.1 cmp19.2.2) fun r14 =>
 (bif (!(decide (r14 < 0))) then
 (if fits (j18 - 1) then (go18 (data19, a19, cmp19, i18, (j18 - 1))) else none)
 else
 (bif (decide (j18 < i18)) then
 (if 0 ≤ a19 ∧ a19 < (data19.length : Int) then
 (Option.bind (data19[a19.toNat]?) fun e161 =>
 (if 0 ≤ j18 ∧ j18 < (data19.length : Int) then
 (Option.bind (data19[j18.toNat]?) fun e162 =>
 (if 0 ≤ j18 ∧ j18 < (data19.length : Int) then
 (Option.bind (data19[j18.toNat]?) fun e163 =>
 (if 0 ≤ a19 ∧ a19 < ((data19.set j18.toNat e161).length : Int) then
 (Option.bind ((data19.set j18.toNat e161)[a19.toNat]?) fun e164 =>
 (some (j18, false, ((data19.set j18.toNat e161).set a19.toNat e162))))
 else none))
 else none))
 else none))
 else none)
 else
 (if 0 ≤ j18 ∧ j18 < (data19.length : Int) then
 (Option.bind (data19[j18.toNat]?) fun e165 =>
 (if 0 ≤ i18 ∧ i18 < (data19.length : Int) then
 (Option.bind (data19[i18.toNat]?) fun e166 =>
 (if 0 ≤ i18 ∧ i18 < (data19.length : Int) then
 (Option.bind (data19[i18.toNat]?) fun e167 =>
 (if 0 ≤ j18 ∧ j18 < ((data19.set i18.toNat e165).length : Int) then
 (Option.bind ((data19.set i18.toNat e165)[j18.toNat]?) fun e168 =>
 (if fits (i18 + 1) then (if fits (j18 - 1) then (go16 (((data19.set i18.toNat e165).set j18.toNat e166), a19, cmp19, (i18 + 1), (j18 - 1))) else none) else none))
 else none))
 else none))
 else none))
 else none)))))
 else none))
 else none)
 else
 (bif (decide (j18 < i18)) then
 (if 0 ≤ a19 ∧ a19 < (data19.length : Int) then
 (Option.bind (data19[a19.toNat]?) fun e169 =>
 (if 0 ≤ j18 ∧ j18 < (data19.length : Int) then
 (Option.bind (data19[j18.toNat]?) fun e170 =>
 (if 0 ≤ j18 ∧ j18 < (data19.length : Int) then
 (Option.bind (data19[j18.toNat]?) fun e171 =>
 (if 0 ≤ a19 ∧ a19 < ((data19.set j18.toNat e169).length : Int) then
 (Option.bind ((data19.set j18.toNat e169)[a19.toNat]?) fun e172 =>
 (some (j18, false, ((data19.set j18.toNat e169).set a19.toNat e170))))
 else none))
 else none))
 else none))
 else none)
 else
 (if 0 ≤ j18 ∧ j18 < (data19.length : Int) then
 (Option.bind (data19[j18.toNat]?) fun e173 =>
 (if 0 ≤ i18 ∧ i18 < (data19.length : Int) then
 (Option.bind (data19[i18.toNat]?) fun e174 =>
 (if 0 ≤ i18 ∧ i18 < (data19.length : Int) then
 (Option.bind (data19[i18.toNat]?) fun e175 =>
 (if 0 ≤ j18 ∧ j18 < ((data19.set i18.toNat e173).length : Int) then
 (Option.bind ((data19.set i18.toNat e173)[j18.toNat]?) fun e176 =>
 (if fits (i18 + 1) then (if fits (j18 - 1) then (go16 (((data19.set i18.toNat e173).set j18.toNat e174), a19, cmp19, (i18 + 1), (j18 - 1))) else none) else none))
 else none))
 else none))
 else none))
 else none)))) N (data18, a18, cmp18, i17, j17)))))
 else none))
 else none)
 else
 (iter (fun go19 (g : Z4) =>
 match g with
 | (data20, a20, cmp20, i19, j19) =>
 (bif (decide (i19 ≤ j19)) then
 (if 0 ≤ j19 ∧ j19 < (data20.length : Int) then
 (Option.bind (data20[j19.toNat]?) fun e177 =>
 (if 0 ≤ a20 ∧ a20 < (data20.length : Int) then
 (Option.bind (data20[a20.toNat]?) fun e178 =>
 (Option.bind (i_LikeTerms_1_m N e177 e178 cmp20.1 cmp20.2.1 cmp20.2.2) fun r15 =>
 (bif (!(decide (r15 < 0))) then
 (if fits (j19 - 1) then (go19 (data20, a20, cmp20, i19, (j19 - 1))) else none)
 else
 (bif (decide (j19 < i19)) then
 (if 0 ≤ a20 ∧ a20 < (data20.length : Int) then
 (Option.bind (data20[a20.toNat]?) fun e179 =>
 (if 0 ≤ j19 ∧ j19 < (data20.length : Int) then
 (Option.bind (data20[j19.toNat]?) fun e180 =>
 (if 0 ≤ j19 ∧ j19 < (data20.length : Int) then
 (Option.bind (data20[j19.toNat]?) fun e181 =>
 (if 0 ≤ a20 ∧ a20 < ((data20.set j19.toNat e179).length : Int) then
 (Option.bind ((data20.set j19.toNat e179)[a20.toNat]?) fun e182 =>
 (some (j19, false, ((data20.set j19.toNat e179).set a20.toNat e180))))
 else none))
 else none))
 else none))
 else none)
 else
 (if 0 ≤ j19 ∧ j19 < (data20.length : Int) then
 (Option.bind (data20[j19.toNat]?) fun e183 =>
 (if 0 ≤ i19 ∧ i19 < (data20.length : Int) then
 (Option.bind (data20[i19.toNat]?) fun e184 =>
 (if 0 ≤ i19 ∧ i19 < (data20.length : Int) then
 (Option.bind (data20[i19.toNat]?) fun e185 =>
 (if 0 ≤ j19 ∧ j19 < ((data20.set i19.toNat e183).length : Int) then
 (Option.bind ((data20.set i19.toNat e183)[j19.toNat]?) fun e186 =>
 (if fits (i19 + 1) then (if fits (j19 - 1) then (go16 (((data20.set i19.toNat e183).set j19.toNat e184), a20, cmp20, (i19 + 1), (j19 - 1))) else none) else none))
 else none))
 else none))
 else none))
 else none)))))
 else none))
 else none)
 else
 (bif (decide (j19 < i19)) then
 (if 0 ≤ a20 ∧ a20 < (data20.length : Int) then
 (Option.bind (data20[a20.toNat]?) fun e187 =>
 (if 0 ≤ j19 ∧ j19 < (data20.length : Int) then
 (Option.bind (data20[j19.toNat]?) fun e188 =>
 (if 0 ≤ j19 ∧ j19 < (data20.length : Int) then
 (Option.bind (data20[j19.toNat]?) fun e189 =>
 (if 0 ≤ a20 ∧ a20 < ((data20.set j19.toNat e187).length : Int) then
 (Option.bind ((data20.set j19.toNat e187)[a20.toNat]?) fun e190 =>
 (some (j19, false, ((data20.set j19.toNat e187).set a20.toNat e188))))
 else none))
 else none))
 else none))
 else none)
 else
 (if 0 ≤ j19 ∧ j19 < (data20.length : Int) then
 (Option.bind (data20[j19.toNat]?) fun e191 =>
 (if 0 ≤ i19 ∧ i19 < (data20.length : Int) then
 (Option.bind (data20[i19.toNat]?) fun e192 =>
 (if 0 ≤ i19 ∧ i19 < (data20.length : Int) then
 (Option.bind (data20[i19.toNat]?) fun e193 =>
 (if 0 ≤ j19 ∧ j19 < ((data20.set i19.toNat e191).length : Int) then
 (Option.bind ((data20.set i19.toNat e191)[j19.toNat]?) fun e194 =>
 (if fits (i19 + 1) then (if fits (j19 - 1) then (go16 (((data20.set i19.toNat e191).set j19.toNat e192), a20, cmp20, (i19 + 1), (j19 - 1))) else none) else none))
 else none))
 else none))
 else none))
 else none)))) N (data18, a18, cmp18, i17, j17)))) N (data17, a17, cmp17, i16, j16))) N (((data12.set i11.toNat e153).set j11.toNat e154), a12, cmp12, (i11 + 1), (j11 - 1))) else none) else none))
 else none))
 else none))
 else none))
 else none)))) N (data2, a2, cmp2, i, j)))) N (((data.set a.toNat e).set pivot.toNat e2), a, cmp, (a + 1), (b - 1))) else none) else none))
 else none))
 else none))
 else none))
 else none)
def jhg (N : Nat) : Model := ⟨⟨[.mtk 800000 .str 9 true, .pv (.int .i64), .pv (.int .i64), .pv (.int .i64), .clo 43 [.ptr (.opt Y0), .ptr .str, .ptr (.int .i64)]], []⟩, ⟨[.tup [.pv (.int .i64), .pv .bool], .mtk 800000 .str 9 true], []⟩, fun a => jc7 N a.1 a.2.1 a.2.2.1 a.2.2.2.1 a.2.2.2.2⟩
theorem jm5 (N : Nat) : ModelOk Tryz.prog 136 (jhg N) :=
 mO (fC (jag N) ja) Tryz.func136 rfl N (.seq .no (.seq .no (.seq .no (.seq (.block (.loop jr2 .no)) (.seq (.block (.loop jmh .no)) (.seq .no (.seq .no (.seq .no (.seq .no (.seq (.block (.loop js5 (.block (.seq (.block (.loop jpN .no)) (.seq (.block (.loop jop .no)) .no))))) .no)))))))))) (jhg N) (rs := [800000])
def jnT : Sh := ⟨.mtk 800000 .str 9 true :: .pv (.int .i64) :: .pv (.int .i64) :: .pv (.int .i64) :: .clo 43 [.ptr (.opt Y0), .ptr .str, .ptr (.int .i64)] :: dz 5 (.pv .bool :: .pv .bool :: dz 136 []), []⟩
def jpM : Sh := ⟨.mtk 800000 .str 9 true :: .pv (.int .i64) :: .pv (.int .i64) :: .pv (.int .i64) :: .clo 43 [.ptr (.opt Y0), .ptr .str, .ptr (.int .i64)] :: dz 5 (.pv .bool :: .pv .bool :: .pv (.int .i64) :: .pv (.int .i64) :: dz 134 []), []⟩
def jl7 : Sh := ⟨.mtk 800000 .str 9 true :: .pv (.int .i64) :: .pv (.int .i64) :: .pv (.int .i64) :: .clo 43 [.ptr (.opt Y0), .ptr .str, .ptr (.int .i64)] :: dz 5 (.pv .bool :: .pv .bool :: .pv (.int .i64) :: .pv (.int .i64) :: .pv (.int .i64) :: dz 133 []), []⟩
def jkr : Sh := ⟨.mtk 800000 .str 9 true :: .pv (.int .i64) :: .pv (.int .i64) :: .pv (.int .i64) :: .clo 43 [.ptr (.opt Y0), .ptr .str, .ptr (.int .i64)] :: dz 5 (.pv .bool :: .pv .bool :: .pv (.int .i64) :: dz 135 []), []⟩
def jM (N : Nat) : (D : Nat) → (List Z0) → Int → Int → Int → Z10 → Z15
 | 0, _, _, _, _, _ => none
 | D + 1, data, a, b, limit, cmp =>
 (iter (fun go (g : (List Z0) × Int × Int × Int × Z10 × Bool × Bool) =>
 match g with
 | (data2, a2, b2, limit2, cmp2, wasBalanced, wasPartitioned) =>
 (if fits (b2 - a2) then (bif (decide ((b2 - a2) ≤ 12)) then
 (Option.bind (jgV N data2 a2 b2 cmp2) fun r =>
 (some r))
 else
 (bif (decide (limit2 = 0)) then
 (Option.bind (jaD N data2 a2 b2 cmp2) fun r2 =>
 (some r2))
 else
 (meet (fun (g : (List Z0) × Int × Int × Int × Z10 × Bool × Bool × Int) =>
 match g with
 | (data3, a3, b3, limit3, cmp3, wasBalanced2, wasPartitioned2, length) =>
 (Option.bind (ji3 N data3 a3 b3 cmp3) fun r4 =>
 (meet (fun (g : (List Z0) × Int × Int × Int × Z10 × Bool × Bool × Int × Int × Int) =>
 match g with
 | (data4, a4, b4, limit4, cmp4, wasBalanced3, wasPartitioned3, length2, pivot, hint) =>
 (meet (fun (g : (List Z0) × Int × Int × Int × Z10 × Bool × Bool × Int × Int) =>
 match g with
 | (data5, a5, b5, limit5, cmp5, wasBalanced4, wasPartitioned4, length3, pivot2) =>
 (bif (decide ((0 : Int) < a5)) then
 (if fits (a5 - 1) then (if 0 ≤ (a5 - 1) ∧ (a5 - 1) < (data5.length : Int) then
 (Option.bind (data5[(a5 - 1).toNat]?) fun e =>
 (if 0 ≤ pivot2 ∧ pivot2 < (data5.length : Int) then
 (Option.bind (data5[pivot2.toNat]?) fun e2 =>
 (Option.bind (i_LikeTerms_1_m N e e2 cmp5.1 cmp5.2.1 cmp5.2.2) fun r7 =>
 (bif (!(decide (r7 < 0))) then
 (Option.bind (jcP N data5 a5 b5 pivot2 cmp5) fun r8 =>
 (go (r8.2, r8.1, b5, limit5, cmp5, wasBalanced4, wasPartitioned4)))
 else
 (Option.bind (jc7 N data5 a5 b5 pivot2 cmp5) fun r9 =>
 (if fits (r9.1 - a5) then (if fits (b5 - r9.1) then (if 8 ≠ 0 then
 (if fits (length3.tdiv 8) then (bif (decide ((r9.1 - a5) < (b5 - r9.1))) then
 (Option.bind (jM N D r9.2.2 a5 r9.1 limit5 cmp5) fun r10 =>
 (if fits (r9.1 + 1) then (go (r10, (r9.1 + 1), b5, limit5, cmp5, (decide ((length3.tdiv 8) ≤ (r9.1 - a5))), r9.2.1)) else none))
 else
 (if fits (r9.1 + 1) then (Option.bind (jM N D r9.2.2 (r9.1 + 1) b5 limit5 cmp5) fun r11 =>
 (go (r11, a5, r9.1, limit5, cmp5, (decide ((length3.tdiv 8) ≤ (b5 - r9.1))), r9.2.1))) else none)) else none)
 else none) else none) else none)))))
 else none))
 else none) else none)
 else
 (Option.bind (jc7 N data5 a5 b5 pivot2 cmp5) fun r12 =>
 (if fits (r12.1 - a5) then (if fits (b5 - r12.1) then (if 8 ≠ 0 then
 (if fits (length3.tdiv 8) then (bif (decide ((r12.1 - a5) < (b5 - r12.1))) then
 (Option.bind (jM N D r12.2.2 a5 r12.1 limit5 cmp5) fun r13 =>
 (if fits (r12.1 + 1) then (go (r13, (r12.1 + 1), b5, limit5, cmp5, (decide ((length3.tdiv 8) ≤ (r12.1 - a5))), r12.2.1)) else none))
 else
 (if fits (r12.1 + 1) then (Option.bind (jM N D r12.2.2 (r12.1 + 1) b5 limit5 cmp5) fun r14 =>
 (go (r14, a5, r12.1, limit5, cmp5, (decide ((length3.tdiv 8) ≤ (b5 - r12.1))), r12.2.1))) else none)) else none)
 else none) else none) else none)))) fun J3 =>
 (bif wasBalanced3 then
 (bif wasPartitioned3 then
 (bif (decide (hint = 1)) then
 (Option.bind (jf2 N data4 a4 b4 cmp4) fun r6 =>
 (bif r6.1 then
 (some r6.2)
 else
 (J3 (r6.2, a4, b4, limit4, cmp4, wasBalanced3, wasPartitioned3, length2, pivot))))
 else
 (J3 (data4, a4, b4, limit4, cmp4, wasBalanced3, wasPartitioned3, length2, pivot)))
 else
 (J3 (data4, a4, b4, limit4, cmp4, wasBalanced3, wasPartitioned3, length2, pivot)))
 else
 (J3 (data4, a4, b4, limit4, cmp4, wasBalanced3, wasPartitioned3, length2, pivot))))) fun J2 =>
 (bif (decide (r4.2.1 = 2)) then
 (Option.bind (jiw N r4.2.2 a3 b3 cmp3) fun r5 =>
 (if fits (b3 - 1) then (if fits (r4.1 - a3) then (if fits ((b3 - 1) - (r4.1 - a3)) then (J2 (r5, a3, b3, limit3, cmp3, wasBalanced2, wasPartitioned2, length, ((b3 - 1) - (r4.1 - a3)), 1)) else none) else none) else none))
 else
 (J2 (r4.2.2, a3, b3, limit3, cmp3, wasBalanced2, wasPartitioned2, length, r4.1, r4.2.1)))))) fun J =>
 (bif (!wasBalanced) then
 (Option.bind (jhp N data2 a2 b2 cmp2) fun r3 =>
 (if fits (limit2 - 1) then (J (r3, a2, b2, (limit2 - 1), cmp2, wasBalanced, wasPartitioned, (b2 - a2))) else none))
 else
 (J (data2, a2, b2, limit2, cmp2, wasBalanced, wasPartitioned, (b2 - a2))))))) else none)) N (data, a, b, limit, cmp, true, true))
def jcv (N D : Nat) : Model := ⟨⟨[.mtk 800000 .str 9 true, .pv (.int .i64), .pv (.int .i64), .pv (.int .i64), .clo 43 [.ptr (.opt Y0), .ptr .str, .ptr (.int .i64)]], []⟩, ⟨[.tup [], .mtk 800000 .str 9 true], []⟩, fun a => jM N D a.1 a.2.1 a.2.2.1 a.2.2.2.1 a.2.2.2.2⟩
theorem jlJ (N D : Nat) (ih : ModelOk Tryz.prog 86 (jcv N D)) : ModelOk Tryz.prog 86 (jcv N (D + 1)) :=
 mO (fC ih (fC (jrS N) (fC (jqM N) (fC (jsh N) (fC (jk1 N) (fC (jpf N) (fC (jle N) (fC (jag N) (fC (jsU N) (fC (jm5 N) ja)))))))))) Tryz.func86 rfl N (.seq .no (.seq .no (.block (.loop jnT (.block (.seq .no (.seq .no (.seq .no (.meet jkr .no (.seq .no (.meet jl7 .no (.meet jpM .no .no)))))))))))) (jcv N (D + 1)) (rs := [800000])
theorem jiq (N : Nat) : ∀ D, ModelOk Tryz.prog 86 (jcv N D)
 | 0 => jcU ⟨_, Tryz.func86, by decide, by kernel_rfl⟩ _ (fun a => rfl)
 | D + 1 => jlJ N D (jiq N D)
def jaO (N : Nat) (x : List Z0) (cmp : Z14) : Z15 :=
 (Option.bind (k_math_bits_Len_m N (IntKind.u64.wrap (x.length : Int))) fun r =>
 (Option.bind (jM N N x 0 (x.length : Int) r cmp) fun r2 =>
 (some r2)))
def jgT (N : Nat) : Model := ⟨⟨[.mtk 800000 .str 9 true, .clo 43 [.ptr (.opt Y0), .ptr .str, .ptr (.int .i64)]], []⟩, ⟨[.tup [], .mtk 800000 .str 9 true], []⟩, fun a => jaO N a.1 a.2⟩
theorem jsi (N : Nat) : ModelOk Tryz.prog 42 (jgT N) :=
 mO (fC (jda N) (fC (jiq N N) ja)) Tryz.func42 rfl N .no (jgT N) (rs := [800000])
def jlB : Sh := ⟨dz 4 (.pv (.int .i64) :: .dead :: .dead :: .box 7 0 :: .box 8 0 :: .dead :: .dead :: .box 11 0 :: .mtk 600012 .str 9 true :: dz 18 (.own 600031 .str 9 true :: .pv (.int .i64) :: .pv (.int .i64) :: dz 25 [])), [(7, false, [.pv .str]), (8, false, [.pv (.int .i64)]), (11, false, [.ptr Y0])]⟩
def i_LikeTerms_m (N : Nat) (c : List Z0) (c2 : List Z6) (s : List Z3) (s2 : List Z2) (field : List UInt8) (id : Int) (many : Int) : Z15 :=
 (Option.bind (jbN N c c2 s s2) fun r =>
 (bif (!r) then
 (some ([] : List Z0))
 else
 (Option.bind (jm N many 1 4) fun r2 =>
 (bif (!r2) then
 (some ([] : List Z0))
 else
 (Option.bind (i_Seg_terms_m N (s, s2) field) fun r3 =>
 (iter (fun go (g : Int × (List Z0) × (List Z0) × Int × Int × Z0 × Int × Z1) =>
 match g with
 | (many2, list, t31, t32, t33, field2, id2, x) =>
 (bif (decide (t33 < t32)) then
 (Option.bind (idx t31 t33) fun e =>
 (Option.bind (i_scorer_points_m N ((x.1, x.2.1), x.2.2) field2 e id2) fun r4 =>
 (bif (decide ((0 : Int) < r4)) then
 (if room list.length ([e] : List Z0).length 16 then
 (if fits (t33 + 1) then (go (many2, (list ++ ([e] : List Z0)), t31, t32, (t33 + 1), field2, id2, x)) else none)
 else none)
 else
 (if fits (t33 + 1) then (go (many2, list, t31, t32, (t33 + 1), field2, id2, x)) else none))))
 else
 (Option.bind (jaO N list ((some x), field2, id2)) fun r5 =>
 (Option.bind (cut r5 0 (if (r5.length : Int) < many2 then (r5.length : Int) else many2)) fun y =>
 (if room ([] : List Z0).length y.length 16 then
 (some (([] : List Z0) ++ y))
 else none))))) N (many, ([] : List Z0), r3, (r3.length : Int), 0, field, id, (c, c2, s, s2))))))))
def jg6 (N : Nat) : Model := ⟨⟨[.agg [.pv (.sl .str), .pv Y14], .agg [.pv Y3, .pv Y5], .pv .str, .pv (.int .i64), .pv (.int .i64)], []⟩, ⟨[.own 1 .str 9 true], []⟩, fun a => i_LikeTerms_m N a.1 a.2.1 a.2.2.1 a.2.2.2.1 a.2.2.2.2.1 a.2.2.2.2.2.1 a.2.2.2.2.2.2⟩
theorem jpR (N : Nat) : ModelOk Tryz.prog 8 (jg6 N) :=
 mO (fC (joa N) (fC (jY N) (fC (jln N) (fC (jsD N) (fC (jsi N) ja))))) Tryz.func8 rfl N (.seq .no (.seq .no (.seq .no (.seq .no (.seq (.seq .no (.block (.loop jlB .no))) .no))))) (jg6 N) (wr := [24, 29, 45, 46, 51, 57, 58])
def jJ (N : Nat) (n : Int) (low : Int) (high : Int) : Z13 :=
 (bif (decide (low ≤ n)) then
 (some (decide (n ≤ high)))
 else
 (some false))
def jgz (N : Nat) : Model := ⟨⟨[.pv (.int .i64), .pv (.int .i64), .pv (.int .i64)], []⟩, ⟨[.pv .bool], []⟩, fun a => jJ N a.1 a.2.1 a.2.2⟩
theorem jcL (N : Nat) : ModelOk Tryz.prog 48 (jgz N) :=
 mO ja Tryz.func48 rfl N .no (jgz N)
def jr5 : Sh := ⟨.pv .str :: .dead :: .dead :: .pv (.int .i64) :: dz 23 [], []⟩
def jT (N : Nat) (s : List UInt8) : Z13 :=
 (iter (fun go (g : Z0 × Int) =>
 match g with
 | (s2, i) =>
 (bif (decide (i < (s2.length : Int))) then
 (Option.bind (idx s2 i) fun c =>
 (Option.bind (jt N (c.toNat : Int)) fun r =>
 (Option.bind (idx s2 i) fun c2 =>
 (bif (!decide (r = (c2.toNat : Int))) then
 (some false)
 else
 (Option.bind (idx s2 i) fun c3 =>
 (bif (decide ((c3.toNat : Int) = 0)) then
 (some false)
 else
 (if fits (i + 1) then (go (s2, (i + 1))) else none)))))))
 else
 (Option.bind (jJ N (s2.length : Int) 1 12) fun r2 =>
 (some r2)))) N (s, 0))
def jfz (N : Nat) : Model := ⟨⟨[.pv .str], []⟩, ⟨[.pv .bool], []⟩, fun a => jT N a⟩
theorem jgp (N : Nat) : ModelOk Tryz.prog 139 (jfz N) :=
 mO (fC (jfG N) (fC (jcL N) ja)) Tryz.func139 rfl N (.seq .no (.seq (.seq .no (.block (.loop jr5 .no))) .no)) (jfz N)
def jrs : Sh := ⟨.dead :: .box 1 0 :: .dead :: .pv (.int .i64) :: dz 114 [], [(1, false, [.pv (.sl .str), .pv Y14])]⟩
def js0 : Sh := ⟨.dead :: .box 1 0 :: .dead :: .dead :: .pv (.int .i64) :: dz 113 [], [(1, false, [.pv (.sl .str), .pv Y14])]⟩
def jrc : Sh := ⟨.dead :: .box 1 0 :: .dead :: .dead :: .pv (.int .i64) :: .box 5 0 :: .pv (.int .i64) :: dz 111 [], [(1, false, [.pv (.sl .str), .pv Y14]), (5, false, [.pv (.sl .str), .pv .str])]⟩
def jcw (N : Nat) (c : List Z0) (c2 : List Z6) : Z13 :=
 (iter (fun go (g : Int × (List Z0) × (List Z6)) =>
 match g with
 | (i, c3, c4) =>
 (bif (decide (i < (c3.length : Int))) then
 (Option.bind (idx c3 i) fun e =>
 (Option.bind (jT N e) fun r =>
 (bif (!r) then
 (some false)
 else
 (bif (decide ((0 : Int) < i)) then
 (Option.bind (idx c3 i) fun e2 =>
 (if fits (i - 1) then (Option.bind (idx c3 (i - 1)) fun e3 =>
 (bif (Op.bytesLess e2 e3 || decide (e2 = e3)) then
 (some false)
 else
 (if fits (i + 1) then (go ((i + 1), c3, c4)) else none))) else none))
 else
 (if fits (i + 1) then (go ((i + 1), c3, c4)) else none)))))
 else
 (iter (fun go2 (g : Int × (List Z0) × (List Z6)) =>
 match g with
 | (i2, c5, c6) =>
 (bif (decide (i2 < (c6.length : Int))) then
 (Option.bind (idx c6 i2) fun e4 =>
 (iter (fun go3 (g : Int × Int × (List Z0) × (List Z6) × (List Z0) × Z0) =>
 match g with
 | (i3, k, c7, c8, y, y2) =>
 (bif (decide (k < (y.length : Int))) then
 (Option.bind (idx y k) fun e5 =>
 (Option.bind (jT N e5) fun r2 =>
 (bif (!r2) then
 (some false)
 else
 (Option.bind (idx y k) fun e6 =>
 (Option.bind (jaq N e6) fun r3 =>
 (Option.bind (idx y k) fun e7 =>
 (bif (!decide (r3 = e7)) then
 (some false)
 else
 (Option.bind (idx y k) fun e8 =>
 (Option.bind (jap N c7 e8) fun r4 =>
 (bif r4 then
 (some false)
 else
 (if fits (k + 1) then (go3 (i3, (k + 1), c7, c8, y, y2)) else none)))))))))))
 else
 (Option.bind (jJ N (y.length : Int) 1 3) fun r5 =>
 (bif (!r5) then
 (some false)
 else
 (Option.bind (jT N y2) fun r6 =>
 (bif (!r6) then
 (some false)
 else
 (Option.bind (jaq N y2) fun r7 =>
 (bif (!decide (r7 = y2)) then
 (some false)
 else
 (if fits (i3 + 1) then (go2 ((i3 + 1), c7, c8)) else none))))))))) N (i2, 0, c5, c6, e4.1, e4.2)))
 else
 (bif (decide ((c5.length : Int) ≤ 6)) then
 (some (decide ((c6.length : Int) ≤ 4)))
 else
 (some false)))) N (0, c3, c4)))) N (0, c, c2))
def jhL (N : Nat) : Model := ⟨⟨[.agg [.pv (.sl .str), .pv Y14]], []⟩, ⟨[.pv .bool], []⟩, fun a => jcw N a.1 a.2⟩
theorem jtf (N : Nat) : ModelOk Tryz.prog 90 (jhL N) :=
 mO (fC (jgp N) (fC (jfZ N) (fC (jhP N) (fC (jcL N) ja)))) Tryz.func90 rfl N (.seq .no (.seq (.seq .no (.block (.loop jrs .no))) (.seq (.seq .no (.block (.loop js0 (.seq .no (.seq (.block (.seq .no (.seq (.seq .no (.block (.loop jrc .no))) .no))) .no))))) .no))) (jhL N)
def jot : Sh := ⟨.pv .str :: .dead :: .dead :: .pv (.int .i64) :: dz 19 [], []⟩
def jcu (N : Nat) (s : List UInt8) : Z13 :=
 (iter (fun go (g : Z0 × Int) =>
 match g with
 | (s2, i) =>
 (bif (decide (i < (s2.length : Int))) then
 (Option.bind (idx s2 i) fun c =>
 (bif (decide ((c.toNat : Int) < 32)) then
 (some false)
 else
 (Option.bind (idx s2 i) fun c2 =>
 (bif (decide ((126 : Int) < (c2.toNat : Int))) then
 (some false)
 else
 (if fits (i + 1) then (go (s2, (i + 1))) else none)))))
 else
 (some (decide ((s2.length : Int) ≤ 160))))) N (s, 0))
def jgn (N : Nat) : Model := ⟨⟨[.pv .str], []⟩, ⟨[.pv .bool], []⟩, fun a => jcu N a⟩
theorem jpZ (N : Nat) : ModelOk Tryz.prog 186 (jgn N) :=
 mO ja Tryz.func186 rfl N (.seq .no (.seq (.seq .no (.block (.loop jot .no))) .no)) (jgn N)
def jp0 : Sh := ⟨.dead :: .box 1 0 :: .dead :: .pv (.int .i64) :: dz 100 [], [(1, false, [.pv (.int .i64), .pv Y16, .pv Y13])]⟩
def jtP : Sh := ⟨.dead :: .box 1 0 :: dz 3 (.pv (.int .i64) :: dz 98 []), [(1, false, [.pv (.int .i64), .pv Y16, .pv Y13])]⟩
def jcb (N : Nat) (d : Int) (d2 : Z18) (d3 : Z8) : Z13 :=
 (iter (fun go (g : Int × Int × Z19 × Z11) =>
 match g with
 | (i, d4, d5, d6) =>
 (bif (decide (i < (d5.length : Int))) then
 (Option.bind (idx d5 i) fun e =>
 (Option.bind (jT N e.1) fun r =>
 (bif (!r) then
 (some false)
 else
 (Option.bind (jcu N e.2) fun r2 =>
 (bif (!r2) then
 (some false)
 else
 (bif (decide ((0 : Int) < i)) then
 (if fits (i - 1) then (Option.bind (idx d5 (i - 1)) fun e2 =>
 (bif (Op.bytesLess e.1 e2.1 || decide (e.1 = e2.1)) then
 (some false)
 else
 (if fits (i + 1) then (go ((i + 1), d4, d5, d6)) else none))) else none)
 else
 (if fits (i + 1) then (go ((i + 1), d4, d5, d6)) else none)))))))
 else
 (iter (fun go2 (g : Int × Int × Z19 × Z11) =>
 match g with
 | (i2, d7, d8, d9) =>
 (bif (decide (i2 < (d9.length : Int))) then
 (Option.bind (idx d9 i2) fun e3 =>
 (Option.bind (jT N e3.1) fun r3 =>
 (bif (!r3) then
 (some false)
 else
 (Option.bind (idx d9 i2) fun e4 =>
 (Option.bind (jJ N e4.2 0 999999999) fun r4 =>
 (bif (!r4) then
 (some false)
 else
 (bif (decide ((0 : Int) < i2)) then
 (Option.bind (idx d9 i2) fun e5 =>
 (if fits (i2 - 1) then (Option.bind (idx d9 (i2 - 1)) fun e6 =>
 (bif (Op.bytesLess e5.1 e6.1 || decide (e5.1 = e6.1)) then
 (some false)
 else
 (if fits (i2 + 1) then (go2 ((i2 + 1), d7, d8, d9)) else none))) else none))
 else
 (if fits (i2 + 1) then (go2 ((i2 + 1), d7, d8, d9)) else none))))))))
 else
 (Option.bind (jJ N d7 1 9999) fun r5 =>
 (bif r5 then
 (Option.bind (jJ N (d8.length : Int) 0 3) fun r6 =>
 (bif r6 then
 (some (decide ((d9.length : Int) ≤ 3)))
 else
 (some false)))
 else
 (some false))))) N (0, d4, d5, d6)))) N (0, d, d2, d3))
def jhT (N : Nat) : Model := ⟨⟨[.agg [.pv (.int .i64), .pv Y16, .pv Y13]], []⟩, ⟨[.pv .bool], []⟩, fun a => jcb N a.1 a.2.1 a.2.2⟩
theorem jpD (N : Nat) : ModelOk Tryz.prog 142 (jhT N) :=
 mO (fC (jgp N) (fC (jpZ N) (fC (jcL N) ja))) Tryz.func142 rfl N (.seq .no (.seq (.seq .no (.block (.loop jp0 .no))) (.seq (.seq .no (.block (.loop jtP .no))) .no))) (jhT N)
def jkS : Sh := ⟨.pv Y3 :: .dead :: .dead :: .pv (.int .i64) :: dz 33 [], []⟩
def jbU (N : Nat) (list : List Z3) : Z13 :=
 (iter (fun go (g : (List Z3) × Int) =>
 match g with
 | (list2, i) =>
 (bif (decide (i < (list2.length : Int))) then
 (Option.bind (idx list2 i) fun e =>
 (Option.bind (jcb N e.1 e.2.1 e.2.2) fun r =>
 (bif (!r) then
 (some false)
 else
 (bif (decide ((0 : Int) < i)) then
 (Option.bind (idx list2 i) fun e2 =>
 (if fits (i - 1) then (Option.bind (idx list2 (i - 1)) fun e3 =>
 (bif (decide (e2.1 ≤ e3.1)) then
 (some false)
 else
 (if fits (i + 1) then (go (list2, (i + 1))) else none))) else none))
 else
 (if fits (i + 1) then (go (list2, (i + 1))) else none)))))
 else
 (some (decide ((list2.length : Int) ≤ 16))))) N (list, 0))
def jgi (N : Nat) : Model := ⟨⟨[.pv Y3], []⟩, ⟨[.pv .bool], []⟩, fun a => jbU N a⟩
theorem jpx (N : Nat) : ModelOk Tryz.prog 91 (jgi N) :=
 mO (fC (jpD N) ja) Tryz.func91 rfl N (.seq .no (.seq (.seq .no (.block (.loop jkS .no))) .no)) (jgi N)
def jnI : Sh := ⟨.pv Y19 :: .pv Y19 :: dz 3 (.pv (.int .i64) :: dz 20 []), []⟩
def jb1 (N : Nat) (a : List Int) (b : List Int) : Z13 :=
 (bif (!decide ((a.length : Int) = (b.length : Int))) then
 (some false)
 else
 (iter (fun go (g : (List Int) × (List Int) × Int) =>
 match g with
 | (a2, b2, i) =>
 (bif (decide (i < (a2.length : Int))) then
 (Option.bind (idx a2 i) fun e =>
 (Option.bind (idx b2 i) fun e2 =>
 (bif (!decide (e = e2)) then
 (some false)
 else
 (if fits (i + 1) then (go (a2, b2, (i + 1))) else none))))
 else
 (some true))) N (a, b, 0)))
def jj0 (N : Nat) : Model := ⟨⟨[.pv Y19, .pv Y19], []⟩, ⟨[.pv .bool], []⟩, fun a => jb1 N a.1 a.2⟩
theorem jlH (N : Nat) : ModelOk Tryz.prog 147 (jj0 N) :=
 mO ja Tryz.func147 rfl N (.seq .no (.seq .no (.seq (.seq .no (.block (.loop jnI .no))) .no))) (jj0 N)
def jnx : Sh := ⟨.dead :: .dead :: .box 2 0 :: .box 3 0 :: .dead :: .pv (.int .i64) :: dz 57 [], [(2, false, [.pv .str, .pv .str, .pv Y11]), (3, false, [.pv .str, .pv .str, .pv Y11])]⟩
def jbQ (N : Nat) (a : List UInt8) (a2 : List UInt8) (a3 : Z5) (b : List UInt8) (b2 : List UInt8) (b3 : Z5) : Z13 :=
 (bif (!decide (a = b)) then
 (some false)
 else
 (bif (!decide (a2 = b2)) then
 (some false)
 else
 (bif (!decide ((a3.length : Int) = (b3.length : Int))) then
 (some false)
 else
 (iter (fun go (g : Int × Z0 × Z0 × Z12 × Z0 × Z0 × Z12) =>
 match g with
 | (i, a4, a5, a6, b4, b5, b6) =>
 (bif (decide (i < (a6.length : Int))) then
 (Option.bind (idx a6 i) fun e =>
 (Option.bind (idx b6 i) fun e2 =>
 (bif (!decide (e.1 = e2.1)) then
 (some false)
 else
 (Option.bind (idx a6 i) fun e3 =>
 (Option.bind (idx b6 i) fun e4 =>
 (Option.bind (jb1 N e3.2 e4.2) fun r =>
 (bif (!r) then
 (some false)
 else
 (if fits (i + 1) then (go ((i + 1), a4, a5, a6, b4, b5, b6)) else none))))))))
 else
 (some true))) N (0, a, a2, a3, b, b2, b3)))))
def jjk (N : Nat) : Model := ⟨⟨[.agg [.pv .str, .pv .str, .pv Y11], .agg [.pv .str, .pv .str, .pv Y11]], []⟩, ⟨[.pv .bool], []⟩, fun a => jbQ N a.1 a.2.1 a.2.2.1 a.2.2.2.1 a.2.2.2.2.1 a.2.2.2.2.2⟩
theorem jtG (N : Nat) : ModelOk Tryz.prog 93 (jjk N) :=
 mO (fC (jlH N) ja) Tryz.func93 rfl N (.seq .no (.seq .no (.seq (.seq .no (.block (.loop jnx .no))) .no))) (jjk N)
def jrW : Sh := ⟨dz 3 (.box 3 0 :: .dead :: .box 5 0 :: .pv (.int .i64) :: dz 39 []), [(3, false, [.pv Y3, .pv Y5]), (5, false, [.own 700500 Y4 46 true, .own 700501 Y6 91 true])]⟩
def jcR (N : Nat) (c : List Z0) (c2 : List Z6) (s : List Z3) (s2 : List Z2) : Z13 :=
 (Option.bind (jcw N c c2) fun r =>
 (bif (!r) then
 (some false)
 else
 (Option.bind (jbU N s) fun r2 =>
 (bif (!r2) then
 (some false)
 else
 (Option.bind (jb8 N c c2 s) fun r3 =>
 (bif (!decide ((r3.2.length : Int) = (s2.length : Int))) then
 (some false)
 else
 (iter (fun go (g : Int × (List Z3) × (List Z2) × (List Z3) × (List Z2)) =>
 match g with
 | (i, s3, s4, x, x2) =>
 (bif (decide (i < (x2.length : Int))) then
 (Option.bind (idx x2 i) fun e =>
 (Option.bind (idx s4 i) fun e2 =>
 (Option.bind (jbQ N e.1 e.2.1 e.2.2 e2.1 e2.2.1 e2.2.2) fun r4 =>
 (bif (!r4) then
 (some false)
 else
 (if fits (i + 1) then (go ((i + 1), s3, s4, x, x2)) else none)))))
 else
 (some true))) N (0, s, s2, r3.1, r3.2))))))))
def jgS (N : Nat) : Model := ⟨⟨[.agg [.pv (.sl .str), .pv Y14], .agg [.pv Y3, .pv Y5]], []⟩, ⟨[.pv .bool], []⟩, fun a => jcR N a.1 a.2.1 a.2.2.1 a.2.2.2⟩
theorem jpm (N : Nat) : ModelOk Tryz.prog 47 (jgS N) :=
 mO (fC (jtf N) (fC (jpx N) (fC (jmU N) (fC (jtG N) ja)))) Tryz.func47 rfl N (.seq .no (.seq .no (.seq .no (.seq .no (.seq (.seq .no (.block (.loop jrW .no))) .no))))) (jgS N)
def jtm : Sh := ⟨.dead :: .pv .str :: .pv .str :: .box 3 0 :: dz 3 (.pv (.int .i64) :: dz 31 []), [(3, false, [.pv Y3, .pv Y5])]⟩
def s_l7Posts_m (N : Nat) (s : List Z3) (s2 : List Z2) (field : List UInt8) (term : List UInt8) : Option (Z12) :=
 (iter (fun go (g : Z0 × Z0 × Int × (List Z3) × (List Z2)) =>
 match g with
 | (field2, term2, i, s3, s4) =>
 (bif (decide (i < (s4.length : Int))) then
 (Option.bind (idx s4 i) fun e =>
 (bif (decide (e.1 = field2)) then
 (Option.bind (idx s4 i) fun e2 =>
 (bif (decide (e2.2.1 = term2)) then
 (Option.bind (idx s4 i) fun e3 =>
 (some e3.2.2))
 else
 (if fits (i + 1) then (go (field2, term2, (i + 1), s3, s4)) else none)))
 else
 (if fits (i + 1) then (go (field2, term2, (i + 1), s3, s4)) else none)))
 else
 (some ([] : Z5)))) N (field, term, 0, s, s2))
def jjV (N : Nat) : Model := ⟨⟨[.agg [.pv Y3, .pv Y5], .pv .str, .pv .str], []⟩, ⟨[.pv Y11], []⟩, fun a => s_l7Posts_m N a.1 a.2.1 a.2.2.1 a.2.2.2⟩
theorem jh6 (N : Nat) : ModelOk Tryz.prog 152 (jjV N) :=
 mO ja Tryz.func152 rfl N (.seq .no (.seq (.seq .no (.block (.loop jtm .no))) .no)) (jjV N)
def jst : Sh := ⟨dz 3 (.pv (.int .i64) :: dz 5 (.pv Y11 :: .pv (.int .i64) :: dz 22 [])), []⟩
def s_l12At_m (N : Nat) (s : List Z3) (s2 : List Z2) (field : List UInt8) (term : List UInt8) (id : Int) : Option ((List Int)) :=
 (Option.bind (s_l7Posts_m N s s2 field term) fun r =>
 (iter (fun go (g : Int × Z12 × Int) =>
 match g with
 | (id2, list, i) =>
 (bif (decide (i < (list.length : Int))) then
 (Option.bind (idx list i) fun e =>
 (bif (decide (e.1 = id2)) then
 (Option.bind (idx list i) fun e2 =>
 (some e2.2))
 else
 (if fits (i + 1) then (go (id2, list, (i + 1))) else none)))
 else
 (some ([] : List Int)))) N (id, r, 0)))
def jhQ (N : Nat) : Model := ⟨⟨[.agg [.pv Y3, .pv Y5], .pv .str, .pv .str, .pv (.int .i64)], []⟩, ⟨[.pv Y19], []⟩, fun a => s_l12At_m N a.1 a.2.1 a.2.2.1 a.2.2.2.1 a.2.2.2.2⟩
theorem jn1 (N : Nat) : ModelOk Tryz.prog 148 (jhQ N) :=
 mO (fC (jh6 N) ja) Tryz.func148 rfl N (.seq .no (.seq .no (.seq (.seq .no (.block (.loop jst .no))) .no))) (jhQ N)
def jqS : Sh := ⟨.dead :: .pv .str :: .pv (.int .i64) :: .box 3 0 :: dz 3 (.pv (.int .i64) :: .pv (.int .i64) :: dz 55 []), [(3, false, [.pv Y3, .pv Y5])]⟩
def jm7 : Sh := ⟨.dead :: .pv .str :: .pv (.int .i64) :: .box 3 0 :: dz 3 (.pv (.int .i64) :: .pv (.int .i64) :: .pv (.int .i64) :: dz 54 []), [(3, false, [.pv Y3, .pv Y5])]⟩
def s_l7Long_m (N : Nat) (s : List Z3) (s2 : List Z2) (field : List UInt8) (id : Int) : Z20 :=
 (iter (fun go (g : Z0 × Int × Int × Int × (List Z3) × (List Z2)) =>
 match g with
 | (field2, id2, n, i, s3, s4) =>
 (bif (decide (i < (s4.length : Int))) then
 (iter (fun go2 (g : Z0 × Int × Int × Int × Int × (List Z3) × (List Z2)) =>
 match g with
 | (field3, id3, n2, i2, k, s5, s6) =>
 (Option.bind (idx s6 i2) fun e =>
 (bif (decide (k < (e.2.2.length : Int))) then
 (Option.bind (idx s6 i2) fun e2 =>
 (bif (decide (e2.1 = field3)) then
 (Option.bind (idx s6 i2) fun e3 =>
 (Option.bind (idx e3.2.2 k) fun e4 =>
 (bif (decide (e4.1 = id3)) then
 (Option.bind (idx s6 i2) fun e5 =>
 (Option.bind (idx e5.2.2 k) fun e6 =>
 (if fits (n2 + (e6.2.length : Int)) then (if fits (k + 1) then (go2 (field3, id3, (n2 + (e6.2.length : Int)), i2, (k + 1), s5, s6)) else none) else none)))
 else
 (if fits (k + 1) then (go2 (field3, id3, n2, i2, (k + 1), s5, s6)) else none))))
 else
 (if fits (i2 + 1) then (go (field3, id3, n2, (i2 + 1), s5, s6)) else none)))
 else
 (if fits (i2 + 1) then (go (field3, id3, n2, (i2 + 1), s5, s6)) else none)))) N (field2, id2, n, i, 0, s3, s4))
 else
 (some n))) N (field, id, 0, 0, s, s2))
def je1 (N : Nat) : Model := ⟨⟨[.agg [.pv Y3, .pv Y5], .pv .str, .pv (.int .i64)], []⟩, ⟨[.pv (.int .i64)], []⟩, fun a => s_l7Long_m N a.1 a.2.1 a.2.2.1 a.2.2.2⟩
theorem jrY (N : Nat) : ModelOk Tryz.prog 150 (je1 N) :=
 mO ja Tryz.func150 rfl N (.seq .no (.seq .no (.seq (.seq .no (.block (.loop jqS (.seq .no (.seq (.block (.seq .no (.block (.loop jm7 .no)))) .no))))) .no))) (je1 N)
def jsB : Sh := ⟨.dead :: .pv .str :: .box 2 0 :: .dead :: .dead :: .pv (.int .i64) :: .pv (.int .i64) :: dz 43 [], [(2, false, [.pv Y3, .pv Y5])]⟩
def jnl : Sh := ⟨.dead :: .pv .str :: .box 2 0 :: .dead :: .dead :: .pv (.int .i64) :: .pv (.int .i64) :: .pv (.int .i64) :: dz 42 [], [(2, false, [.pv Y3, .pv Y5])]⟩
def s_l12Total_m (N : Nat) (s : List Z3) (s2 : List Z2) (field : List UInt8) : Z20 :=
 (iter (fun go (g : Z0 × Int × Int × (List Z3) × (List Z2)) =>
 match g with
 | (field2, n, i, s3, s4) =>
 (bif (decide (i < (s4.length : Int))) then
 (iter (fun go2 (g : Z0 × Int × Int × Int × (List Z3) × (List Z2)) =>
 match g with
 | (field3, n2, i2, k, s5, s6) =>
 (Option.bind (idx s6 i2) fun e =>
 (bif (decide (k < (e.2.2.length : Int))) then
 (Option.bind (idx s6 i2) fun e2 =>
 (bif (decide (e2.1 = field3)) then
 (Option.bind (idx s6 i2) fun e3 =>
 (Option.bind (idx e3.2.2 k) fun e4 =>
 (if fits (n2 + (e4.2.length : Int)) then (if fits (k + 1) then (go2 (field3, (n2 + (e4.2.length : Int)), i2, (k + 1), s5, s6)) else none) else none)))
 else
 (if fits (i2 + 1) then (go (field3, n2, (i2 + 1), s5, s6)) else none)))
 else
 (if fits (i2 + 1) then (go (field3, n2, (i2 + 1), s5, s6)) else none)))) N (field2, n, i, 0, s3, s4))
 else
 (some n))) N (field, 0, 0, s, s2))
def jfX (N : Nat) : Model := ⟨⟨[.agg [.pv Y3, .pv Y5], .pv .str], []⟩, ⟨[.pv (.int .i64)], []⟩, fun a => s_l12Total_m N a.1 a.2.1 a.2.2⟩
theorem jn2 (N : Nat) : ModelOk Tryz.prog 151 (jfX N) :=
 mO ja Tryz.func151 rfl N (.seq .no (.seq .no (.seq (.seq .no (.block (.loop jsB (.seq .no (.seq (.block (.seq .no (.block (.loop jnl .no)))) .no))))) .no))) (jfX N)
def jsx : Sh := ⟨.pv (.int .i64) :: .pv (.int .i64) :: dz 3 (.pv (.int .i64) :: dz 13 []), []⟩
def jbz (N : Nat) (df : Int) (docs : Int) : Z20 :=
 (iter (fun go (g : Int × Int × Int) =>
 match g with
 | (df2, docs2, n) =>
 (bif (decide ((0 : Int) < df2)) then
 (if fits (df2 * 2) then (bif (decide ((df2 * 2) ≤ docs2)) then
 (if fits (df2 * 2) then (if fits (n + 1) then (go ((df2 * 2), docs2, (n + 1))) else none) else none)
 else
 (some n)) else none)
 else
 (some n))) N (df, docs, 0))
def jjm (N : Nat) : Model := ⟨⟨[.pv (.int .i64), .pv (.int .i64)], []⟩, ⟨[.pv (.int .i64)], []⟩, fun a => jbz N a.1 a.2⟩
theorem jkd (N : Nat) : ModelOk Tryz.prog 192 (jjm N) :=
 mO ja Tryz.func192 rfl N (.seq .no (.seq .no (.seq (.block (.loop jsx .no)) .no))) (jjm N)
def jkC : Sh := ⟨.pv (.int .i64) :: .pv (.int .i64) :: dz 15 [], []⟩
def jaY (N : Nat) : (D : Nat) → Int → Int → Z20
 | 0, _, _ => none
 | D + 1, a, b =>
 (meet (fun (g : Int × Int) =>
 match g with
 | (a2, b2) =>
 (bif (decide (b2 = 0)) then
 (some a2)
 else
 (if b2 ≠ 0 then
 (Option.bind (jaY N D b2 (a2.tmod b2)) fun r =>
 (some r))
 else none))) fun J =>
 (bif (decide (a < 0)) then
 (if fits (0 - a) then (J ((0 - a), b)) else none)
 else
 (J (a, b))))
def jcQ (N D : Nat) : Model := ⟨⟨[.pv (.int .i64), .pv (.int .i64)], []⟩, ⟨[.pv (.int .i64)], []⟩, fun a => jaY N D a.1 a.2⟩
theorem jlI (N D : Nat) (ih : ModelOk Tryz.prog 225 (jcQ N D)) : ModelOk Tryz.prog 225 (jcQ N (D + 1)) :=
 mO (fC ih ja) Tryz.func225 rfl N (.seq .no (.meet jkC .no .no)) (jcQ N (D + 1))
theorem jeF (N : Nat) : ∀ D, ModelOk Tryz.prog 225 (jcQ N D)
 | 0 => jcU ⟨_, Tryz.func225, by decide, by kernel_rfl⟩ _ (fun a => rfl)
 | D + 1 => jlI N D (jeF N D)
def jlg : Sh := ⟨.pv (.int .i64) :: .pv (.int .i64) :: .dead :: .dead :: .box 4 0 :: dz 17 [], [(4, false, [.pv (.int .i64), .pv (.int .i64)])]⟩
def jcf (N : Nat) (a : Int) (b : Int) : Option (Int × Int) :=
 (meet (fun (g : Int × Int × Int × Int) =>
 match g with
 | (a2, b2, b3, b4) =>
 (Option.bind (jaY N N a2 b2) fun r =>
 (if r ≠ 0 then
 (if fits (a2.tdiv r) then (if r ≠ 0 then
 (if fits (b2.tdiv r) then (some ((a2.tdiv r), (b2.tdiv r))) else none)
 else none) else none)
 else none))) fun J =>
 (bif (decide (b < 0)) then
 (if fits (0 - a) then (if fits (0 - b) then (J ((0 - a), (0 - b), 0, 0)) else none) else none)
 else
 (J (a, b, 0, 0))))
def jiC (N : Nat) : Model := ⟨⟨[.pv (.int .i64), .pv (.int .i64)], []⟩, ⟨[.agg [.pv (.int .i64), .pv (.int .i64)]], []⟩, fun a => jcf N a.1 a.2⟩
theorem jn4 (N : Nat) : ModelOk Tryz.prog 191 (jiC N) :=
 mO (fC (jeF N N) ja) Tryz.func191 rfl N (.seq .no (.meet jlg .no .no)) (jiC N)
def jqT : Sh := ⟨.pv (.int .i64) :: .dead :: .dead :: .pv (.int .i64) :: .pv (.int .i64) :: dz 5 (.box 10 0 :: .pv (.int .i64) :: dz 21 []), [(10, false, [.pv (.int .i64), .pv (.int .i64)])]⟩
def s_l12Term_m (N : Nat) (tf : Int) (long : Int) (total : Int) (docs : Int) (df : Int) : Option (Int × Int) :=
 (meet (fun (g : Int × Int × Int × Int × Int × Int) =>
 match g with
 | (tf2, docs2, df2, mean, b, b2) =>
 (Option.bind (jbz N df2 docs2) fun r =>
 (if fits (1 + r) then (if fits ((1 + r) * 22) then (if fits (((1 + r) * 22) * tf2) then (if fits (10 * tf2) then (if fits ((10 * tf2) + 3) then (if fits (((10 * tf2) + 3) + mean) then (Option.bind (jcf N (((1 + r) * 22) * tf2) (((10 * tf2) + 3) + mean)) fun r2 =>
 (some (r2.1, r2.2))) else none) else none) else none) else none) else none) else none))) fun J =>
 (bif (decide ((0 : Int) < total)) then
 (if fits (long * docs) then (if fits ((long * docs) * 9) then (if total ≠ 0 then
 (if fits (((long * docs) * 9).tdiv total) then (J (tf, docs, df, (((long * docs) * 9).tdiv total), 0, 0)) else none)
 else none) else none) else none)
 else
 (J (tf, docs, df, 1, 0, 0))))
def jfm (N : Nat) : Model := ⟨⟨[.pv (.int .i64), .pv (.int .i64), .pv (.int .i64), .pv (.int .i64), .pv (.int .i64)], []⟩, ⟨[.agg [.pv (.int .i64), .pv (.int .i64)]], []⟩, fun a => s_l12Term_m N a.1 a.2.1 a.2.2.1 a.2.2.2.1 a.2.2.2.2⟩
theorem jtF (N : Nat) : ModelOk Tryz.prog 149 (jfm N) :=
 mO (fC (jkd N) (fC (jn4 N) ja)) Tryz.func149 rfl N (.seq .no (.seq .no (.meet jqT .no .no))) (jfm N)
def s_l12Points_m (N : Nat) (s : List Z3) (s2 : List Z2) (field : List UInt8) (term : List UInt8) (id : Int) : Z20 :=
 (Option.bind (s_l12At_m N s s2 field term id) fun r =>
 (bif (decide ((r.length : Int) = 0)) then
 (some 0)
 else
 (Option.bind (s_l7Long_m N s s2 field id) fun r2 =>
 (Option.bind (s_l12Total_m N s s2 field) fun r3 =>
 (Option.bind (s_l7Posts_m N s s2 field term) fun r4 =>
 (Option.bind (s_l12Term_m N (r.length : Int) r2 r3 (s.length : Int) (r4.length : Int)) fun r5 =>
 (if fits (r5.1 * 1000) then (if r5.2 ≠ 0 then
 (if fits ((r5.1 * 1000).tdiv r5.2) then (some ((r5.1 * 1000).tdiv r5.2)) else none)
 else none) else none)))))))
def jjY (N : Nat) : Model := ⟨⟨[.agg [.pv Y3, .pv Y5], .pv .str, .pv .str, .pv (.int .i64)], []⟩, ⟨[.pv (.int .i64)], []⟩, fun a => s_l12Points_m N a.1 a.2.1 a.2.2.1 a.2.2.2.1 a.2.2.2.2⟩
theorem jrZ (N : Nat) : ModelOk Tryz.prog 94 (jjY N) :=
 mO (fC (jn1 N) (fC (jrY N) (fC (jn2 N) (fC (jh6 N) (fC (jtF N) ja))))) Tryz.func94 rfl N .no (jjY N)
def jsg : Sh := ⟨.dead :: .dead :: .pv .str :: .pv (.int .i64) :: .pv (.int .i64) :: .dead :: .box 6 0 :: dz 4 (.own 600011 .str 9 true :: .own 600012 (.int .i64) 3 true :: .pv (.int .i64) :: dz 82 []), [(6, false, [.pv Y3, .pv Y5])]⟩
def jov : Sh := ⟨.dead :: .dead :: .pv .str :: .pv (.int .i64) :: .pv (.int .i64) :: .dead :: .box 6 0 :: dz 4 (.own 600011 .str 9 true :: .own 600012 (.int .i64) 3 true :: .pv (.int .i64) :: .box 14 0 :: .pv (.int .i64) :: .pv (.int .i64) :: dz 79 []), [(6, false, [.pv Y3, .pv Y5]), (14, false, [.pv .str, .pv .str, .pv Y11])]⟩
def jrh : Sh := ⟨.dead :: .dead :: .pv .str :: .pv (.int .i64) :: .pv (.int .i64) :: .dead :: .box 6 0 :: dz 4 (.own 600011 .str 9 true :: .own 600012 (.int .i64) 3 true :: .pv (.int .i64) :: .box 14 0 :: .pv (.int .i64) :: dz 80 []), [(6, false, [.pv Y3, .pv Y5]), (14, false, [.pv .str, .pv .str, .pv Y11])]⟩
def s_l23Terms_m (N : Nat) (c : List Z0) (c2 : List Z6) (s : List Z3) (s2 : List Z2) (field : List UInt8) (id : Int) (many : Int) : Z15 :=
 (iter (fun go (g : Z0 × Int × Int × (List Z0) × (List Int) × Int × (List Z3) × (List Z2)) =>
 match g with
 | (field2, id2, many2, out, points, i, s3, s4) =>
 (bif (decide (i < (s4.length : Int))) then
 (Option.bind (idx s4 i) fun e =>
 (meet (fun (g : Z0 × Int × Int × (List Z0) × (List Int) × Int × Int × (List Z3) × (List Z2) × Z0 × Z0 × Z12) =>
 match g with
 | (field3, id3, many3, out2, points2, i2, n, s5, s6, e2, e3, e4) =>
 (bif (decide (n = 0)) then
 (if fits (i2 + 1) then (go (field3, id3, many3, out2, points2, (i2 + 1), s5, s6)) else none)
 else
 (iter (fun go2 (g : Z0 × Int × Int × (List Z0) × (List Int) × Int × Int × Int × (List Z3) × (List Z2) × Z0 × Z0 × Z12) =>
 match g with
 | (field4, id4, many4, out3, points3, i3, n2, k, s7, s8, e5, e6, e7) =>
 (bif (decide (k < (out3.length : Int))) then
 (Option.bind (idx points3 k) fun e8 =>
 (bif (decide (n2 ≤ e8)) then
 (if fits (k + 1) then (go2 (field4, id4, many4, out3, points3, i3, n2, (k + 1), s7, s8, e5, e6, e7)) else none)
 else
 (Option.bind (cut out3 0 k) fun y =>
 (if room ([] : List Z0).length y.length 16 then
 (if room (([] : List Z0) ++ y).length ([e6] : List Z0).length 16 then
 (Option.bind (cut out3 k (out3.length : Int)) fun y2 =>
 (if room ((([] : List Z0) ++ y) ++ ([e6] : List Z0)).length y2.length 16 then
 (Option.bind (cut points3 0 k) fun y3 =>
 (if room ([] : List Int).length y3.length 8 then
 (if room (([] : List Int) ++ y3).length ([n2] : List Int).length 8 then
 (Option.bind (cut points3 k (points3.length : Int)) fun y4 =>
 (if room ((([] : List Int) ++ y3) ++ ([n2] : List Int)).length y4.length 8 then
 (if fits (i3 + 1) then (go (field4, id4, many4, (((([] : List Z0) ++ y) ++ ([e6] : List Z0)) ++ y2), (((([] : List Int) ++ y3) ++ ([n2] : List Int)) ++ y4), (i3 + 1), s7, s8)) else none)
 else none))
 else none)
 else none))
 else none))
 else none)
 else none))))
 else
 (Option.bind (cut out3 0 k) fun y5 =>
 (if room ([] : List Z0).length y5.length 16 then
 (if room (([] : List Z0) ++ y5).length ([e6] : List Z0).length 16 then
 (Option.bind (cut out3 k (out3.length : Int)) fun y6 =>
 (if room ((([] : List Z0) ++ y5) ++ ([e6] : List Z0)).length y6.length 16 then
 (Option.bind (cut points3 0 k) fun y7 =>
 (if room ([] : List Int).length y7.length 8 then
 (if room (([] : List Int) ++ y7).length ([n2] : List Int).length 8 then
 (Option.bind (cut points3 k (points3.length : Int)) fun y8 =>
 (if room ((([] : List Int) ++ y7) ++ ([n2] : List Int)).length y8.length 8 then
 (if fits (i3 + 1) then (go (field4, id4, many4, (((([] : List Z0) ++ y5) ++ ([e6] : List Z0)) ++ y6), (((([] : List Int) ++ y7) ++ ([n2] : List Int)) ++ y8), (i3 + 1), s7, s8)) else none)
 else none))
 else none)
 else none))
 else none))
 else none)
 else none)))) N (field3, id3, many3, out2, points2, i2, n, 0, s5, s6, e2, e3, e4)))) fun J =>
 (bif (decide (e.1 = field2)) then
 (Option.bind (s_l12Points_m N s3 s4 field2 e.2.1 id2) fun r =>
 (J (field2, id2, many2, out, points, i, r, s3, s4, e.1, e.2.1, e.2.2)))
 else
 (J (field2, id2, many2, out, points, i, 0, s3, s4, e.1, e.2.1, e.2.2)))))
 else
 (bif (decide (many2 < (out.length : Int))) then
 (Option.bind (cut out 0 many2) fun y9 =>
 (some y9))
 else
 (some out)))) N (field, id, many, ([] : List Z0), ([] : List Int), 0, s, s2))
def jeH (N : Nat) : Model := ⟨⟨[.agg [.pv (.sl .str), .pv Y14], .agg [.pv Y3, .pv Y5], .pv .str, .pv (.int .i64), .pv (.int .i64)], []⟩, ⟨[.pv (.sl .str)], []⟩, fun a => s_l23Terms_m N a.1 a.2.1 a.2.2.1 a.2.2.2.1 a.2.2.2.2.1 a.2.2.2.2.2.1 a.2.2.2.2.2.2⟩
theorem joc (N : Nat) : ModelOk Tryz.prog 49 (jeH N) :=
 mO (fC (jrZ N) ja) Tryz.func49 rfl N (.seq .no (.seq .no (.seq .no (.seq (.seq .no (.block (.loop jsg (.seq .no (.seq (.block (.seq .no (.seq .no (.meet jrh .no (.seq .no (.seq .no (.seq (.block (.loop jov .no)) .no))))))) .no))))) .no)))) (jeH N)
def s_LikeTerms_m (N : Nat) (c : List Z0) (c2 : List Z6) (s : List Z3) (s2 : List Z2) (field : List UInt8) (id : Int) (many : Int) : Z15 :=
 (Option.bind (jcR N c c2 s s2) fun r =>
 (bif (!r) then
 (some ([] : List Z0))
 else
 (Option.bind (jJ N many 1 4) fun r2 =>
 (bif (!r2) then
 (some ([] : List Z0))
 else
 (Option.bind (s_l23Terms_m N c c2 s s2 field id many) fun r3 =>
 (some r3))))))
def jfR (N : Nat) : Model := ⟨⟨[.agg [.pv (.sl .str), .pv Y14], .agg [.pv Y3, .pv Y5], .pv .str, .pv (.int .i64), .pv (.int .i64)], []⟩, ⟨[.pv (.sl .str)], []⟩, fun a => s_LikeTerms_m N a.1 a.2.1 a.2.2.1 a.2.2.2.1 a.2.2.2.2.1 a.2.2.2.2.2.1 a.2.2.2.2.2.2⟩
theorem jsd (N : Nat) : ModelOk Tryz.prog 10 (jfR N) :=
 mO (fC (jpm N) (fC (jcL N) (fC (joc N) ja))) Tryz.func10 rfl N .no (jfR N)
def jve : Sh := ⟨.pv (.sl .str) :: .pv (.sl .str) :: dz 3 (.pv (.int .i64) :: dz 20 []), []⟩
def l_foTexts_m (N : Nat) (a : List Z0) (b : List Z0) : Z13 :=
 (bif (!decide ((a.length : Int) = (b.length : Int))) then
 (some false)
 else
 (iter (fun go (g : (List Z0) × (List Z0) × Int) =>
 match g with
 | (a2, b2, i) =>
 (bif (decide (i < (a2.length : Int))) then
 (Option.bind (idx a2 i) fun e =>
 (Option.bind (idx b2 i) fun e2 =>
 (bif (!decide (e = e2)) then
 (some false)
 else
 (if fits (i + 1) then (go (a2, b2, (i + 1))) else none))))
 else
 (some true))) N (a, b, 0)))
def jub (N : Nat) : Model := ⟨⟨[.pv (.sl .str), .pv (.sl .str)], []⟩, ⟨[.pv .bool], []⟩, fun a => l_foTexts_m N a.1 a.2⟩
theorem juE (N : Nat) : ModelOk Tryz.prog 9 (jub N) :=
 mO ja Tryz.func9 rfl N (.seq .no (.seq .no (.seq (.seq .no (.block (.loop jve .no))) .no))) (jub N)
def juZ : Sh := ⟨dz 9 (.own 600009 Y12 152 true :: dz 10 (.pv Y11 :: .pv (.int .i64) :: .pv (.int .i64) :: dz 15 [])), []⟩
def i_SegPosts_m (N : Nat) (c : List Z0) (c2 : List Z6) (s : List Z3) (s2 : List Z2) (field : List UInt8) (term : List UInt8) : Option (Z12) :=
 (Option.bind (jbN N c c2 s s2) fun r =>
 (bif (!r) then
 (some ([] : Z5))
 else
 (Option.bind (i_Seg_posts_m N (s, s2) field term) fun r2 =>
 (iter (fun go (g : Z12 × Z12 × Int × Int) =>
 match g with
 | (out, t20, t21, t22) =>
 (bif (decide (t22 < t21)) then
 (Option.bind (idx t20 t22) fun e =>
 (if room ([] : List Int).length e.2.length 8 then
 (if room out.length ([(e.1, (([] : List Int) ++ e.2))] : Z5).length 32 then
 (if fits (t22 + 1) then (go ((out ++ ([(e.1, (([] : List Int) ++ e.2))] : Z5)), t20, t21, (t22 + 1))) else none)
 else none)
 else none))
 else
 (some out))) N (([] : Z5), r2, (r2.length : Int), 0)))))
def jt8 (N : Nat) : Model := ⟨⟨[.agg [.pv (.sl .str), .pv Y14], .agg [.pv Y3, .pv Y5], .pv .str, .pv .str], []⟩, ⟨[.own 1 Y12 152 true], []⟩, fun a => i_SegPosts_m N a.1 a.2.1 a.2.2.1 a.2.2.2.1 a.2.2.2.2.1 a.2.2.2.2.2⟩
theorem juG (N : Nat) : ModelOk Tryz.prog 55 (jt8 N) :=
 mO (fC (joa N) (fC (jcq N) ja)) Tryz.func55 rfl N (.seq .no (.seq .no (.seq .no (.seq (.seq .no (.block (.loop juZ .no))) .no)))) (jt8 N)
def juM : Sh := ⟨.pv Y11 :: .pv (.int .i64) :: dz 3 (.pv (.int .i64) :: dz 18 []), []⟩
def l_foAt_m (N : Nat) (list : Z5) (id : Int) : Option ((List Int)) :=
 (iter (fun go (g : Z12 × Int × Int) =>
 match g with
 | (list2, id2, i) =>
 (bif (decide (i < (list2.length : Int))) then
 (Option.bind (idx list2 i) fun e =>
 (bif (decide (e.1 = id2)) then
 (Option.bind (idx list2 i) fun e2 =>
 (some e2.2))
 else
 (if fits (i + 1) then (go (list2, id2, (i + 1))) else none)))
 else
 (some ([] : List Int)))) N (list, id, 0))
def juj (N : Nat) : Model := ⟨⟨[.pv Y11, .pv (.int .i64)], []⟩, ⟨[.pv Y19], []⟩, fun a => l_foAt_m N a.1 a.2⟩
theorem juY (N : Nat) : ModelOk Tryz.prog 56 (juj N) :=
 mO ja Tryz.func56 rfl N (.seq .no (.seq (.seq .no (.block (.loop juM .no))) .no)) (juj N)
def i_SegLong_m (N : Nat) (c : List Z0) (c2 : List Z6) (s : List Z3) (s2 : List Z2) (field : List UInt8) (id : Int) : Z20 :=
 (Option.bind (jbN N c c2 s s2) fun r =>
 (bif (!r) then
 (some (-1))
 else
 (Option.bind (i_Seg_long_m N (s, s2) c c2 field id) fun r2 =>
 (some r2))))
def jun (N : Nat) : Model := ⟨⟨[.agg [.pv (.sl .str), .pv Y14], .agg [.pv Y3, .pv Y5], .pv .str, .pv (.int .i64)], []⟩, ⟨[.pv (.int .i64)], []⟩, fun a => i_SegLong_m N a.1 a.2.1 a.2.2.1 a.2.2.2.1 a.2.2.2.2.1 a.2.2.2.2.2⟩
theorem jvd (N : Nat) : ModelOk Tryz.prog 57 (jun N) :=
 mO (fC (joa N) (fC (jhs N) ja)) Tryz.func57 rfl N .no (jun N)
def jux : Sh := ⟨.dead :: .dead :: .pv .str :: .dead :: .pv (.int .i64) :: .box 5 0 :: .box 6 0 :: dz 4 (.own 600011 Y12 152 true :: .pv Y19 :: .pv (.int .i64) :: .pv (.int .i64) :: dz 51 []), [(5, false, [.pv (.sl .str), .pv Y14]), (6, false, [.pv Y3, .pv Y5])]⟩
def l_foPoints_m (N : Nat) (c : List Z0) (c2 : List Z6) (s : List Z3) (s2 : List Z2) (field : List UInt8) (term : List UInt8) (id : Int) : Z20 :=
 (Option.bind (i_SegPosts_m N c c2 s s2 field term) fun r =>
 (Option.bind (l_foAt_m N r id) fun r2 =>
 (bif (decide ((r2.length : Int) = 0)) then
 (some 0)
 else
 (iter (fun go (g : Z0 × Int × Z12 × (List Int) × Int × Int × (List Z0) × (List Z6) × (List Z3) × (List Z2)) =>
 match g with
 | (field2, id2, posts, at0, total, i, c3, c4, s3, s4) =>
 (bif (decide (i < (s3.length : Int))) then
 (Option.bind (idx s3 i) fun e =>
 (Option.bind (i_SegLong_m N c3 c4 s3 s4 field2 e.1) fun r3 =>
 (if fits (total + r3) then (if fits (i + 1) then (go (field2, id2, posts, at0, (total + r3), (i + 1), c3, c4, s3, s4)) else none) else none)))
 else
 (Option.bind (i_SegLong_m N c3 c4 s3 s4 field2 id2) fun r4 =>
 (Option.bind (i_TermScore_m N (at0.length : Int) r4 total (s3.length : Int) (posts.length : Int)) fun r5 =>
 (Option.bind (i_RatFloor_m N r5.1 r5.2.1 1000) fun r6 =>
 (some r6)))))) N (field, id, r, r2, 0, 0, c, c2, s, s2)))))
def jt6 (N : Nat) : Model := ⟨⟨[.agg [.pv (.sl .str), .pv Y14], .agg [.pv Y3, .pv Y5], .pv .str, .pv .str, .pv (.int .i64)], []⟩, ⟨[.pv (.int .i64)], []⟩, fun a => l_foPoints_m N a.1 a.2.1 a.2.2.1 a.2.2.2.1 a.2.2.2.2.1 a.2.2.2.2.2.1 a.2.2.2.2.2.2⟩
theorem ju8 (N : Nat) : ModelOk Tryz.prog 12 (jt6 N) :=
 mO (fC (juG N) (fC (juY N) (fC (jvd N) (fC (jgE N) (fC (jiY N) ja))))) Tryz.func12 rfl N (.seq .no (.seq .no (.seq .no (.seq .no (.seq .no (.seq (.seq .no (.block (.loop jux .no))) .no)))))) (jt6 N)
def i_SegTerms_m (N : Nat) (c : List Z0) (c2 : List Z6) (s : List Z3) (s2 : List Z2) (field : List UInt8) : Z15 :=
 (Option.bind (jbN N c c2 s s2) fun r =>
 (bif (!r) then
 (some ([] : List Z0))
 else
 (Option.bind (i_Seg_terms_m N (s, s2) field) fun r2 =>
 (some r2))))
def juq (N : Nat) : Model := ⟨⟨[.agg [.pv (.sl .str), .pv Y14], .agg [.pv Y3, .pv Y5], .pv .str], []⟩, ⟨[.own 1 .str 9 true], []⟩, fun a => i_SegTerms_m N a.1 a.2.1 a.2.2.1 a.2.2.2.1 a.2.2.2.2⟩
theorem juS (N : Nat) : ModelOk Tryz.prog 13 (juq N) :=
 mO (fC (joa N) (fC (jln N) ja)) Tryz.func13 rfl N .no (juq N)
def juz : Sh := ⟨.pv (.sl .str) :: .pv .str :: dz 3 (.pv (.int .i64) :: dz 12 []), []⟩
def l_foHas_m (N : Nat) (list : List Z0) (s : List UInt8) : Z13 :=
 (iter (fun go (g : (List Z0) × Z0 × Int) =>
 match g with
 | (list2, s2, i) =>
 (bif (decide (i < (list2.length : Int))) then
 (Option.bind (idx list2 i) fun e =>
 (bif (decide (e = s2)) then
 (some true)
 else
 (if fits (i + 1) then (go (list2, s2, (i + 1))) else none)))
 else
 (some false))) N (list, s, 0))
def jum (N : Nat) : Model := ⟨⟨[.pv (.sl .str), .pv .str], []⟩, ⟨[.pv .bool], []⟩, fun a => l_foHas_m N a.1 a.2⟩
theorem ju4 (N : Nat) : ModelOk Tryz.prog 14 (jum N) :=
 mO ja Tryz.func14 rfl N (.seq .no (.seq (.seq .no (.block (.loop juz .no))) .no)) (jum N)
def juJ : Sh := ⟨dz 3 (.box 3 0 :: .box 4 0 :: .pv .str :: .pv (.int .i64) :: .pv (.int .i64) :: .own 600008 .str 9 true :: .pv (.int .i64) :: .pv (.int .i64) :: dz 141 []), [(3, false, [.own 700300 .str 9 true, .own 700301 Y17 137 true]), (4, false, [.pv Y3, .own 700401 Y6 91 false])]⟩
def juR : Sh := ⟨dz 3 (.box 3 0 :: .box 4 0 :: .pv .str :: .pv (.int .i64) :: .pv (.int .i64) :: .own 600008 .str 9 true :: .pv (.int .i64) :: .dead :: .dead :: .own 600012 .str 9 true :: .pv (.int .i64) :: dz 138 []), [(3, false, [.own 700300 .str 9 true, .own 700301 Y17 137 true]), (4, false, [.pv Y3, .own 700401 Y6 91 false])]⟩
def l_FnLikeTerms_m (N : Nat) (code : List Int) : Z13 :=
 (bif (decide ((1048576 : Int) < (code.length : Int))) then
 (some true)
 else
 (Option.bind (s_DrawLikeTerms_m N code) fun r =>
 (Option.bind (i_LikeTerms_m N r.1 r.2.1 r.2.2.1 r.2.2.2.1 r.2.2.2.2.1 r.2.2.2.2.2.1 r.2.2.2.2.2.2) fun r2 =>
 (Option.bind (s_LikeTerms_m N r.1 r.2.1 r.2.2.1 r.2.2.2.1 r.2.2.2.2.1 r.2.2.2.2.2.1 r.2.2.2.2.2.2) fun r3 =>
 (Option.bind (l_foTexts_m N r2 r3) fun r4 =>
 (bif (!r4) then
 (Option.bind (s_LikeTerms_m N r.1 r.2.1 r.2.2.1 r.2.2.2.1 r.2.2.2.2.1 r.2.2.2.2.2.1 r.2.2.2.2.2.2) fun r5 =>
 (Option.bind (l_foTexts_m N r2 r5) fun r6 =>
 (some r6)))
 else
 (Option.bind (jbN N r.1 r.2.1 r.2.2.1 r.2.2.2.1) fun r7 =>
 (bif (!r7) then
 (Option.bind (s_LikeTerms_m N r.1 r.2.1 r.2.2.1 r.2.2.2.1 r.2.2.2.2.1 r.2.2.2.2.2.1 r.2.2.2.2.2.2) fun r8 =>
 (Option.bind (l_foTexts_m N r2 r8) fun r9 =>
 (some r9)))
 else
 (bif (decide (r.2.2.2.2.2.2 < 1)) then
 (Option.bind (s_LikeTerms_m N r.1 r.2.1 r.2.2.1 r.2.2.2.1 r.2.2.2.2.1 r.2.2.2.2.2.1 r.2.2.2.2.2.2) fun r10 =>
 (Option.bind (l_foTexts_m N r2 r10) fun r11 =>
 (some r11)))
 else
 (bif (decide ((4 : Int) < r.2.2.2.2.2.2)) then
 (Option.bind (s_LikeTerms_m N r.1 r.2.1 r.2.2.1 r.2.2.2.1 r.2.2.2.2.1 r.2.2.2.2.2.1 r.2.2.2.2.2.2) fun r12 =>
 (Option.bind (l_foTexts_m N r2 r12) fun r13 =>
 (some r13)))
 else
 (iter (fun go (g : Z0 × Int × Int × (List Z0) × Int × Int × (List Z0) × (List Z6) × (List Z3) × (List Z2)) =>
 match g with
 | (field, id, many, list, least, i, c, c2, s, s2) =>
 (bif (decide (i < (list.length : Int))) then
 (Option.bind (idx list i) fun e =>
 (Option.bind (l_foPoints_m N c c2 s s2 field e id) fun r14 =>
 (bif (decide (r14 = 0)) then
 (some false)
 else
 (bif (decide ((0 : Int) < i)) then
 (bif (decide (least < r14)) then
 (some false)
 else
 (bif (decide (r14 = least)) then
 (Option.bind (idx list i) fun e2 =>
 (if fits (i - 1) then (Option.bind (idx list (i - 1)) fun e3 =>
 (bif (Op.bytesLess e2 e3 || decide (e2 = e3)) then
 (some false)
 else
 (if fits (i + 1) then (go (field, id, many, list, r14, (i + 1), c, c2, s, s2)) else none))) else none))
 else
 (if fits (i + 1) then (go (field, id, many, list, r14, (i + 1), c, c2, s, s2)) else none)))
 else
 (if fits (i + 1) then (go (field, id, many, list, r14, (i + 1), c, c2, s, s2)) else none)))))
 else
 (Option.bind (i_SegTerms_m N c c2 s s2 field) fun r15 =>
 (iter (fun go2 (g : Z0 × Int × Int × (List Z0) × Int × (List Z0) × Int × (List Z0) × (List Z6) × (List Z3) × (List Z2)) =>
 match g with
 | (field2, id2, many2, list2, least2, all, i2, c3, c4, s3, s4) =>
 (bif (decide (i2 < (all.length : Int))) then
 (Option.bind (idx all i2) fun e4 =>
 (Option.bind (l_foPoints_m N c3 c4 s3 s4 field2 e4 id2) fun r16 =>
 (bif (decide ((0 : Int) < r16)) then
 (Option.bind (idx all i2) fun e5 =>
 (Option.bind (l_foHas_m N list2 e5) fun r17 =>
 (bif (!r17) then
 (bif (decide ((list2.length : Int) < many2)) then
 (some false)
 else
 (bif (decide (least2 < r16)) then
 (some false)
 else
 (if fits (i2 + 1) then (go2 (field2, id2, many2, list2, least2, all, (i2 + 1), c3, c4, s3, s4)) else none)))
 else
 (if fits (i2 + 1) then (go2 (field2, id2, many2, list2, least2, all, (i2 + 1), c3, c4, s3, s4)) else none))))
 else
 (if fits (i2 + 1) then (go2 (field2, id2, many2, list2, least2, all, (i2 + 1), c3, c4, s3, s4)) else none))))
 else
 (some (decide ((list2.length : Int) ≤ many2))))) N (field, id, many, list, least, r15, 0, c, c2, s, s2))))) N (r.2.2.2.2.1, r.2.2.2.2.2.1, r.2.2.2.2.2.2, r2, 0, 0, r.1, r.2.1, r.2.2.1, r.2.2.2.1))))))))))))
def jua (N : Nat) : Model := ⟨⟨[.pv (.sl (.int .u8))], []⟩, ⟨[.pv .bool], []⟩, fun a => l_FnLikeTerms_m N a⟩
theorem juV (N : Nat) : ModelOk Tryz.prog 3 (jua N) :=
 mO (fC (juH N) (fC (jpR N) (fC (jsd N) (fC (juE N) (fC (joa N) (fC (ju8 N) (fC (juS N) (fC (ju4 N) ja)))))))) Tryz.func3 rfl N (.seq .no (.seq .no (.seq .no (.seq .no (.seq .no (.seq .no (.seq (.seq .no (.block (.loop juJ .no))) (.seq .no (.seq (.seq .no (.block (.loop juR .no))) .no))))))))) (jua N)
end Go.Proofs.YtcjbjmbialienaaGreatDoor
