import Derived.Test.YtcjbjmbialienaaGreatDoorKTab
set_option linter.unusedVariables false
set_option linter.unusedSimpArgs false
namespace Go.Proofs.YtcjbjmbialienaaGreatDoor
open Go.RowKit
set_option maxRecDepth 1000000
abbrev Z0 : Type := List UInt8
abbrev Z1 : Type := (List Z0) × (List ((List Z0) × Z0)) × (List (Int × (List (Z0 × Z0)) × (List (Z0 × Int)))) × (List (Z0 × Z0 × (List (Int × (List Int)))))
abbrev Z2 : Type := Z0 × Z0 × (List (Int × (List Int)))
abbrev Z3 : Type := Int × (List (Z0 × Z0)) × (List (Z0 × Int))
abbrev Z4 : Type := (List Z0) × Int × ((Option Z1) × Z0 × Int) × Int × Int
abbrev Z5 : Type := List (Int × (List Int))
abbrev Z6 : Type := (List Z0) × Z0
abbrev Z7 : Type := (List Z2) × Int × Unit × Int × Int
abbrev Z8 : Type := List (Z0 × Int)
abbrev Z9 : Type := Z0 × Int × Int × Int
abbrev Z10 : Type := (Option Z1) × Z0 × Int
abbrev Z11 : Type := List (Z0 × Int)
abbrev Z12 : Type := List (Int × (List Int))
abbrev Z13 : Type := Option (Bool)
abbrev Z14 : Type := (Option Z1) × Z0 × Int
abbrev Z15 : Type := Option ((List Z0))
abbrev Z16 : Type := (List Z2) × Int × Int × Unit × Int × Int
abbrev Z17 : Type := (List Z0) × Int × Int × Z10 × Int × Int
abbrev Z18 : Type := List (Z0 × Z0)
abbrev Z19 : Type := List (Z0 × Z0)
abbrev Z20 : Type := Option (Int)
abbrev Z21 : Type := (List Z2) × Int × Int × Unit × Int × Int × Int
abbrev Z22 : Type := (List Z0) × Int × Int × Z10 × Int × Int × Int
abbrev Z23 : Type := Z11 × Int × (Option Z6) × Z6 × Bool × Int × Int × Bool × (List Z0) × Int × Int × (List Z0) × (List Z6)
theorem mO {l : List (Nat × Model)} (hl : jR Tryz.prog l) {f : FuncId} {fn : Func} {c : Code} (hf : Tryz.prog.funcs[f]? = some fn) (hbody : fn.body = some c) (N : Nat) (h : Hint) (m : Model) (wr rs dw : List Nat := [])
  (hname : (fn.name == "runtime.NumGoroutine") = false := by kernel_rfl) (hres : m.arg.names.all (jbC l wr rs dw).res = true := by kernel_rfl) (hlen : Nat.ble m.arg.vals.length fn.ntmps = true := by kernel_rfl)
  (hrun : ∀ a, m.run a = runF N (jbC l wr rs dw) jba fn c h m.arg m.ret a := by intro a; kernel_rfl) : ModelOk Tryz.prog f m := jsl (E := jbC l wr rs dw) (jtQ hl wr rs dw) hf hname hbody N h m hres hlen hrun
theorem fC {k : Nat} {m : Model} {l : List (Nat × Model)} (h : ModelOk Tryz.prog k m) (hl : jR Tryz.prog l) : jR Tryz.prog ((k, m) :: l) := jsH h hl
def dz : Nat → List VS → List VS
 | 0, l => l
 | n + 1, l => .dead :: dz n l
abbrev Y19 : Tp := .sl (.int .i64)
abbrev Y18 : Tp := .pair .str .str
abbrev Y17 : Tp := .pair (.sl .str) .str
abbrev Y16 : Tp := .sl (.pair .str .str)
abbrev Y15 : Tp := .pair .str (.int .i64)
abbrev Y14 : Tp := .sl (.pair (.sl .str) .str)
abbrev Y13 : Tp := .sl (.pair .str (.int .i64))
abbrev Y12 : Tp := .pair (.int .i64) (.sl (.int .i64))
abbrev Y11 : Tp := .sl (.pair (.int .i64) (.sl (.int .i64)))
abbrev Y7 : Tp := .pair .str (.pair (.int .i64) (.pair (.int .i64) (.int .i64)))
abbrev Y6 : Tp := .pair .str (.pair .str (.sl (.pair (.int .i64) (.sl (.int .i64)))))
abbrev Y5 : Tp := .sl (.pair .str (.pair .str (.sl (.pair (.int .i64) (.sl (.int .i64))))))
abbrev Y4 : Tp := .pair (.int .i64) (.pair (.sl (.pair .str .str)) (.sl (.pair .str (.int .i64))))
abbrev Y3 : Tp := .sl (.pair (.int .i64) (.pair (.sl (.pair .str .str)) (.sl (.pair .str (.int .i64)))))
abbrev Y2 : Tp := .pair (.sl (.pair (.int .i64) (.pair (.sl (.pair .str .str)) (.sl (.pair .str (.int .i64)))))) (.sl (.pair .str (.pair .str (.sl (.pair (.int .i64) (.sl (.int .i64)))))))
abbrev Y0 : Tp := .pair (.sl .str) (.pair (.sl (.pair (.sl .str) .str)) (.pair (.sl (.pair (.int .i64) (.pair (.sl (.pair .str .str)) (.sl (.pair .str (.int .i64)))))) (.sl (.pair .str (.pair .str (.sl (.pair (.int .i64) (.sl (.int .i64)))))))))
def jt0 (N : Nat) (code : List Int) : Option ((List Int) × Int) :=
 (bif (decide ((2000 : Int) < (code.length : Int))) then
 (Option.bind (cut code 0 2000) fun y =>
 (some (y, 0)))
 else
 (some (code, 0)))
def jt9 (N : Nat) : Model := ⟨⟨[.pv (.sl (.int .u8))], []⟩, ⟨[.box 10 0], [(10, false, [.pv (.sl (.int .u8)), .pv (.int .i64)])]⟩, fun a => jt0 N a⟩
theorem juQ (N : Nat) : ModelOk Tryz.prog 34 (jt9 N) :=
 mO ja Tryz.func34 rfl N .no (jt9 N)
def jtW (N : Nat) (n : Int) (b : List Int) (b2 : Int) : Option (Int × (List Int) × Int) :=
 (if fits (b2 + 1) then (bif (decide (n < 1)) then
 (some (0, b, (b2 + 1)))
 else
 (bif (decide ((b.length : Int) = 0)) then
 (some (0, b, (b2 + 1)))
 else
 (if fits ((b2 + 1) - 1) then (bif (decide (((b2 + 1) - 1) < (b.length : Int))) then
 (Option.bind (idx b ((b2 + 1) - 1)) fun e =>
 (if n ≠ 0 then
 (some (((IntKind.i64.wrap e).tmod n), b, (b2 + 1)))
 else none))
 else
 (if (b.length : Int) ≠ 0 then
 (Option.bind (idx b (((b2 + 1) - 1).tmod (b.length : Int))) fun e2 =>
 (if fits ((IntKind.i64.wrap e2) * 131) then (if fits (((b2 + 1) - 1) * 7) then (if fits ((((b2 + 1) - 1) * 7) + 3) then (if (b.length : Int) ≠ 0 then
 (Option.bind (idx b (((((b2 + 1) - 1) * 7) + 3).tmod (b.length : Int))) fun e3 =>
 (if fits ((IntKind.i64.wrap e3) * 1117) then (if fits (((IntKind.i64.wrap e2) * 131) + ((IntKind.i64.wrap e3) * 1117)) then (if fits (((b2 + 1) - 1) * 29) then (if fits ((((IntKind.i64.wrap e2) * 131) + ((IntKind.i64.wrap e3) * 1117)) + (((b2 + 1) - 1) * 29)) then (if (b.length : Int) ≠ 0 then
 (if fits (((b2 + 1) - 1).tdiv (b.length : Int)) then (if fits ((((b2 + 1) - 1).tdiv (b.length : Int)) * 53) then (if fits (((((IntKind.i64.wrap e2) * 131) + ((IntKind.i64.wrap e3) * 1117)) + (((b2 + 1) - 1) * 29)) + ((((b2 + 1) - 1).tdiv (b.length : Int)) * 53)) then (if 64 ≠ 0 then
 (if fits ((((((IntKind.i64.wrap e2) * 131) + ((IntKind.i64.wrap e3) * 1117)) + (((b2 + 1) - 1) * 29)) + ((((b2 + 1) - 1).tdiv (b.length : Int)) * 53)).tdiv 64) then (if n ≠ 0 then
 (some (((bitsI .xor .i64 (((((IntKind.i64.wrap e2) * 131) + ((IntKind.i64.wrap e3) * 1117)) + (((b2 + 1) - 1) * 29)) + ((((b2 + 1) - 1).tdiv (b.length : Int)) * 53)) ((((((IntKind.i64.wrap e2) * 131) + ((IntKind.i64.wrap e3) * 1117)) + (((b2 + 1) - 1) * 29)) + ((((b2 + 1) - 1).tdiv (b.length : Int)) * 53)).tdiv 64)).tmod n), b, (b2 + 1)))
 else none) else none)
 else none) else none) else none) else none)
 else none) else none) else none) else none) else none))
 else none) else none) else none) else none))
 else none)) else none))) else none)
def juo (N : Nat) : Model := ⟨⟨[.box 900000 0, .pv (.int .i64)], [(900000, false, [.pv (.sl (.int .u8)), .pv (.int .i64)])]⟩, ⟨[.pv (.int .i64)], [(900000, false, [.pv (.sl (.int .u8)), .pv (.int .i64)])]⟩, fun a => jtW N a.1 a.2.1 a.2.2⟩
theorem jtX (N : Nat) : ModelOk Tryz.prog 36 (juo N) :=
 mO ja Tryz.func36 rfl N .no (juo N) (rs := [900000])
def juL : Sh := ⟨.box 900000 0 :: .dead :: .box 2 0 :: .box 3 0 :: dz 30 [], [(2, false, [.nils, .nils]), (3, false, [.own 13 .str 9 true, .nils]), (900000, false, [.pv (.sl (.int .u8)), .pv (.int .i64)])]⟩
def juw : Sh := ⟨.box 900000 0 :: .dead :: .box 2 0 :: .box 3 0 :: dz 30 [], [(2, false, [.nils, .nils]), (3, false, [.own 8 .str 9 true, .nils]), (900000, false, [.pv (.sl (.int .u8)), .pv (.int .i64)])]⟩
def s_l30Conf_m (N : Nat) (b : List Int) (b2 : Int) : Option ((List Z0) × (List Z6) × (List Int) × Int) :=
 (meet (fun (g : (List Z0) × (List Int) × Int) =>
 match g with
 | (c, b3, b4) =>
 (meet (fun (g : (List Z0) × (List Int) × Int) =>
 match g with
 | (c2, b5, b6) =>
 (Option.bind (jtW N 4 b5 b6) fun r3 =>
 (bif (decide (r3.1 = 0)) then
 (some (c2, ([(([([110, 101, 119] : List UInt8), ([121, 111, 114, 107] : List UInt8)] : List Z0), ([110, 121] : List UInt8))] : List Z6), r3.2.1, r3.2.2))
 else
 (bif (decide (r3.1 = 1)) then
 (some (c2, ([(([([98, 105, 103] : List UInt8)] : List Z0), ([108, 97, 114, 103] : List UInt8)), (([([98, 105, 103] : List UInt8), ([114, 101, 100] : List UInt8), ([102, 111, 120] : List UInt8)] : List Z0), ([102, 111, 120] : List UInt8)), (([([110, 101, 119] : List UInt8), ([121, 111, 114, 107] : List UInt8)] : List Z0), ([110, 121] : List UInt8))] : List Z6), r3.2.1, r3.2.2))
 else
 (some (c2, ([] : List Z6), r3.2.1, r3.2.2)))))) fun J2 =>
 (Option.bind (jtW N 4 b3 b4) fun r2 =>
 (bif (decide (r2.1 = 0)) then
 (J2 (([([100, 111, 103] : List UInt8), ([116, 104, 101] : List UInt8)] : List Z0), r2.2.1, r2.2.2))
 else
 (J2 (c, r2.2.1, r2.2.2)))))) fun J =>
 (Option.bind (jtW N 3 b b2) fun r =>
 (bif (decide ((0 : Int) < r.1)) then
 (J (([([116, 104, 101] : List UInt8)] : List Z0), r.2.1, r.2.2))
 else
 (J (([] : List Z0), r.2.1, r.2.2)))))
def juk (N : Nat) : Model := ⟨⟨[.box 900000 0], [(900000, false, [.pv (.sl (.int .u8)), .pv (.int .i64)])]⟩, ⟨[.agg [.own 1 .str 9 true, .own 2 Y17 137 true]], [(900000, false, [.pv (.sl (.int .u8)), .pv (.int .i64)])]⟩, fun a => s_l30Conf_m N a.1 a.2⟩
theorem jva (N : Nat) : ModelOk Tryz.prog 125 (juk N) :=
 mO (fC (jtX N) ja) Tryz.func125 rfl N (.seq .no (.seq .no (.meet juw .no (.meet juL .no .no)))) (juk N) (rs := [900000])
def jtY (N : Nat) (list : List Z0) (b : List Int) (b2 : Int) : Option (Z0 × (List Int) × Int) :=
 (Option.bind (jtW N (list.length : Int) b b2) fun r =>
 (Option.bind (idx list r.1) fun e =>
 (some (e, r.2.1, r.2.2))))
def jud (N : Nat) : Model := ⟨⟨[.box 900000 0, .pv (.sl .str)], [(900000, false, [.pv (.sl (.int .u8)), .pv (.int .i64)])]⟩, ⟨[.pv .str], [(900000, false, [.pv (.sl (.int .u8)), .pv (.int .i64)])]⟩, fun a => jtY N a.1 a.2.1 a.2.2⟩
theorem jt3 (N : Nat) : ModelOk Tryz.prog 82 (jud N) :=
 mO (fC (jtX N) ja) Tryz.func82 rfl N .no (jud N) (rs := [900000])
def jt1 (N : Nat) (b : List Int) (b2 : Int) : Option (Z0 × (List Int) × Int) :=
 (Option.bind (jtY N ([([99, 97, 116] : List UInt8), ([67, 97, 116, 115] : List UInt8), ([100, 111, 103] : List UInt8), ([100, 111, 103, 115] : List UInt8), ([114, 117, 110] : List UInt8), ([82, 85, 78, 78, 73, 78, 71] : List UInt8), ([116, 104, 101] : List UInt8), ([114, 101, 100] : List UInt8), ([98, 105, 103] : List UInt8), ([110, 101, 119, 32, 121, 111, 114, 107] : List UInt8), ([78, 101, 119, 32, 32, 89, 111, 114, 107] : List UInt8), ([110, 121] : List UInt8), ([102, 111, 120] : List UInt8), ([112, 97, 115, 115, 101, 100] : List UInt8), ([120, 49] : List UInt8), ([97, 118, 101, 114, 121, 118, 101, 114, 121, 108, 111, 110, 103, 119, 111, 114, 100] : List UInt8)] : List Z0) b b2) fun r =>
 (some (r.1, r.2.1, r.2.2)))
def juv (N : Nat) : Model := ⟨⟨[.box 900000 0], [(900000, false, [.pv (.sl (.int .u8)), .pv (.int .i64)])]⟩, ⟨[.pv .str], [(900000, false, [.pv (.sl (.int .u8)), .pv (.int .i64)])]⟩, fun a => jt1 N a.1 a.2⟩
theorem jvg (N : Nat) : ModelOk Tryz.prog 235 (juv N) :=
 mO (fC (jt3 N) ja) Tryz.func235 rfl N .no (juv N) (rs := [900000])
def juP : Sh := ⟨.box 900000 0 :: .dead :: .dead :: .pv .str :: .pv (.int .i64) :: dz 15 [], [(900000, false, [.pv (.sl (.int .u8)), .pv (.int .i64)])]⟩
def jtZ (N : Nat) (b : List Int) (b2 : Int) : Option (Z0 × (List Int) × Int) :=
 (Option.bind (jtW N 9 b b2) fun r =>
 (iter (fun go (g : Z0 × Int × (List Int) × Int) =>
 match g with
 | (s, n, b3, b4) =>
 (bif (decide ((0 : Int) < n)) then
 (Option.bind (jt1 N b3 b4) fun r2 =>
 (if s.length + r2.1.length ≤ 9223372036854775807 then
 (Option.bind (jtY N ([([32] : List UInt8), ([32] : List UInt8), ([44, 32] : List UInt8), ([45] : List UInt8), ([46, 32] : List UInt8)] : List Z0) r2.2.1 r2.2.2) fun r3 =>
 (if (s ++ r2.1).length + r3.1.length ≤ 9223372036854775807 then
 (if fits (n - 1) then (go (((s ++ r2.1) ++ r3.1), (n - 1), r3.2.1, r3.2.2)) else none)
 else none))
 else none))
 else
 (some (s, b3, b4)))) N (([] : List UInt8), r.1, r.2.1, r.2.2)))
def jur (N : Nat) : Model := ⟨⟨[.box 900000 0], [(900000, false, [.pv (.sl (.int .u8)), .pv (.int .i64)])]⟩, ⟨[.pv .str], [(900000, false, [.pv (.sl (.int .u8)), .pv (.int .i64)])]⟩, fun a => jtZ N a.1 a.2⟩
theorem juT (N : Nat) : ModelOk Tryz.prog 220 (jur N) :=
 mO (fC (jtX N) (fC (jvg N) (fC (jt3 N) ja))) Tryz.func220 rfl N (.seq .no (.seq .no (.seq (.seq .no (.block (.loop juP .no))) .no))) (jur N) (rs := [900000])
def juy : Sh := ⟨.box 900000 0 :: dz 3 (.box 4 0 :: .box 5 0 :: dz 48 []), [(4, false, [.pv (.int .i64), .nils, .nils]), (5, false, [.pv (.int .i64), .own 28 Y18 142 true, .own 39 Y15 209 true]), (900000, false, [.pv (.sl (.int .u8)), .pv (.int .i64)])]⟩
def juX : Sh := ⟨.box 900000 0 :: dz 3 (.box 4 0 :: .box 5 0 :: dz 48 []), [(4, false, [.pv (.int .i64), .nils, .nils]), (5, false, [.pv (.int .i64), .own 28 Y18 142 true, .nils]), (900000, false, [.pv (.sl (.int .u8)), .pv (.int .i64)])]⟩
def jvb : Sh := ⟨.box 900000 0 :: dz 3 (.box 4 0 :: .box 5 0 :: dz 48 []), [(4, false, [.pv (.int .i64), .nils, .nils]), (5, false, [.pv (.int .i64), .own 17 Y18 142 true, .nils]), (900000, false, [.pv (.sl (.int .u8)), .pv (.int .i64)])]⟩
def s_l30Doc_m (N : Nat) (id : Int) (b : List Int) (b2 : Int) : Option (Int × Z19 × Z11 × (List Int) × Int) :=
 (meet (fun (g : Int × Int × Z19 × (List Int) × Int) =>
 match g with
 | (b3, d, d2, b4, b5) =>
 (meet (fun (g : Int × Int × Z19 × (List Int) × Int) =>
 match g with
 | (b6, d3, d4, b7, b8) =>
 (meet (fun (g : Int × Int × Z19 × Z11 × (List Int) × Int) =>
 match g with
 | (b9, d5, d6, d7, b10, b11) =>
 (Option.bind (jtW N 3 b10 b11) fun r7 =>
 (bif (decide (r7.1 = 0)) then
 (Option.bind (jtW N 30 r7.2.1 r7.2.2) fun r8 =>
 (if fits (2000 + r8.1) then (if room d7.length ([(([121, 101, 97, 114] : List UInt8), (2000 + r8.1))] : Z8).length 24 then
 (some (d5, d6, (d7 ++ ([(([121, 101, 97, 114] : List UInt8), (2000 + r8.1))] : Z8)), r8.2.1, r8.2.2))
 else none) else none))
 else
 (some (d5, d6, d7, r7.2.1, r7.2.2))))) fun J3 =>
 (Option.bind (jtW N 3 b7 b8) fun r5 =>
 (bif (decide ((0 : Int) < r5.1)) then
 (Option.bind (jtW N 4 r5.2.1 r5.2.2) fun r6 =>
 (if room ([] : Z8).length ([(([114, 97, 116, 101] : List UInt8), r6.1)] : Z8).length 24 then
 (J3 (b6, d3, d4, (([] : Z8) ++ ([(([114, 97, 116, 101] : List UInt8), r6.1)] : Z8)), r6.2.1, r6.2.2))
 else none))
 else
 (J3 (b6, d3, d4, ([] : Z8), r5.2.1, r5.2.2)))))) fun J2 =>
 (Option.bind (jtW N 3 b4 b5) fun r3 =>
 (bif (decide (r3.1 = 0)) then
 (Option.bind (jtZ N r3.2.1 r3.2.2) fun r4 =>
 (if room d2.length ([(([116, 105, 116, 108, 101] : List UInt8), r4.1)] : Z18).length 32 then
 (J2 (b3, d, (d2 ++ ([(([116, 105, 116, 108, 101] : List UInt8), r4.1)] : Z18)), r4.2.1, r4.2.2))
 else none))
 else
 (J2 (b3, d, d2, r3.2.1, r3.2.2)))))) fun J =>
 (Option.bind (jtW N 6 b b2) fun r =>
 (bif (decide ((0 : Int) < r.1)) then
 (Option.bind (jtZ N r.2.1 r.2.2) fun r2 =>
 (if room ([] : Z18).length ([(([98, 111, 100, 121] : List UInt8), r2.1)] : Z18).length 32 then
 (J (0, id, (([] : Z18) ++ ([(([98, 111, 100, 121] : List UInt8), r2.1)] : Z18)), r2.2.1, r2.2.2))
 else none))
 else
 (J (0, id, ([] : Z18), r.2.1, r.2.2)))))
def jup (N : Nat) : Model := ⟨⟨[.box 900000 0, .pv (.int .i64)], [(900000, false, [.pv (.sl (.int .u8)), .pv (.int .i64)])]⟩, ⟨[.agg [.pv (.int .i64), .own 1 Y18 142 true, .own 2 Y15 209 true]], [(900000, false, [.pv (.sl (.int .u8)), .pv (.int .i64)])]⟩, fun a => s_l30Doc_m N a.1 a.2.1 a.2.2⟩
theorem jvf (N : Nat) : ModelOk Tryz.prog 178 (jup N) :=
 mO (fC (jtX N) (fC (juT N) ja)) Tryz.func178 rfl N (.seq .no (.seq .no (.meet jvb .no (.meet juX .no (.meet juy .no .no))))) (jup N) (rs := [900000])
def juU : Sh := ⟨.box 900000 0 :: .dead :: .dead :: .own 600003 Y4 46 true :: .pv (.int .i64) :: .pv (.int .i64) :: dz 19 [], [(900000, false, [.pv (.sl (.int .u8)), .pv (.int .i64)])]⟩
def s_l30Docs_m (N : Nat) (b : List Int) (b2 : Int) : Option ((List Z3) × (List Int) × Int) :=
 (Option.bind (jtW N 6 b b2) fun r =>
 (iter (fun go (g : (List Z3) × Int × Int × (List Int) × Int) =>
 match g with
 | (out, id, n, b3, b4) =>
 (bif (decide ((0 : Int) < n)) then
 (if fits (id + 1) then (Option.bind (jtW N 3 b3 b4) fun r2 =>
 (if fits ((id + 1) + r2.1) then (Option.bind (s_l30Doc_m N ((id + 1) + r2.1) r2.2.1 r2.2.2) fun r3 =>
 (if room out.length ([(r3.1, r3.2.1, r3.2.2.1)] : List Z3).length 56 then
 (if fits (n - 1) then (go ((out ++ ([(r3.1, r3.2.1, r3.2.2.1)] : List Z3)), ((id + 1) + r2.1), (n - 1), r3.2.2.2.1, r3.2.2.2.2)) else none)
 else none)) else none)) else none)
 else
 (some (out, b3, b4)))) N (([] : List Z3), 0, r.1, r.2.1, r.2.2)))
def jui (N : Nat) : Model := ⟨⟨[.box 900000 0], [(900000, false, [.pv (.sl (.int .u8)), .pv (.int .i64)])]⟩, ⟨[.own 1 Y4 46 true], [(900000, false, [.pv (.sl (.int .u8)), .pv (.int .i64)])]⟩, fun a => s_l30Docs_m N a.1 a.2⟩
theorem juO (N : Nat) : ModelOk Tryz.prog 126 (jui N) :=
 mO (fC (jtX N) (fC (jvf N) ja)) Tryz.func126 rfl N (.seq .no (.seq .no (.seq .no (.seq (.seq .no (.block (.loop juU .no))) .no)))) (jui N) (rs := [900000])
def jl5 : Sh := ⟨.pv (.sl .str) :: .pv .str :: dz 3 (.pv (.int .i64) :: dz 42 []), []⟩
def s_l7Put_m (N : Nat) (list : List Z0) (s : List UInt8) : Z15 :=
 (iter (fun go (g : (List Z0) × Z0 × Int) =>
 match g with
 | (list2, s2, k) =>
 (bif (decide (k < (list2.length : Int))) then
 (Option.bind (idx list2 k) fun e =>
 (bif (Op.bytesLess e s2) then
 (if fits (k + 1) then (go (list2, s2, (k + 1))) else none)
 else
 (bif (decide (k < (list2.length : Int))) then
 (Option.bind (idx list2 k) fun e2 =>
 (bif (decide (e2 = s2)) then
 (some list2)
 else
 (Option.bind (cut list2 0 k) fun y =>
 (if room ([] : List Z0).length y.length 16 then
 (if room (([] : List Z0) ++ y).length ([s2] : List Z0).length 16 then
 (Option.bind (cut list2 k (list2.length : Int)) fun y2 =>
 (if room ((([] : List Z0) ++ y) ++ ([s2] : List Z0)).length y2.length 16 then
 (some (((([] : List Z0) ++ y) ++ ([s2] : List Z0)) ++ y2))
 else none))
 else none)
 else none))))
 else
 (Option.bind (cut list2 0 k) fun y3 =>
 (if room ([] : List Z0).length y3.length 16 then
 (if room (([] : List Z0) ++ y3).length ([s2] : List Z0).length 16 then
 (Option.bind (cut list2 k (list2.length : Int)) fun y4 =>
 (if room ((([] : List Z0) ++ y3) ++ ([s2] : List Z0)).length y4.length 16 then
 (some (((([] : List Z0) ++ y3) ++ ([s2] : List Z0)) ++ y4))
 else none))
 else none)
 else none)))))
 else
 (bif (decide (k < (list2.length : Int))) then
 (Option.bind (idx list2 k) fun e3 =>
 (bif (decide (e3 = s2)) then
 (some list2)
 else
 (Option.bind (cut list2 0 k) fun y5 =>
 (if room ([] : List Z0).length y5.length 16 then
 (if room (([] : List Z0) ++ y5).length ([s2] : List Z0).length 16 then
 (Option.bind (cut list2 k (list2.length : Int)) fun y6 =>
 (if room ((([] : List Z0) ++ y5) ++ ([s2] : List Z0)).length y6.length 16 then
 (some (((([] : List Z0) ++ y5) ++ ([s2] : List Z0)) ++ y6))
 else none))
 else none)
 else none))))
 else
 (Option.bind (cut list2 0 k) fun y7 =>
 (if room ([] : List Z0).length y7.length 16 then
 (if room (([] : List Z0) ++ y7).length ([s2] : List Z0).length 16 then
 (Option.bind (cut list2 k (list2.length : Int)) fun y8 =>
 (if room ((([] : List Z0) ++ y7) ++ ([s2] : List Z0)).length y8.length 16 then
 (some (((([] : List Z0) ++ y7) ++ ([s2] : List Z0)) ++ y8))
 else none))
 else none)
 else none))))) N (list, s, 0))
def je5 (N : Nat) : Model := ⟨⟨[.pv (.sl .str), .pv .str], []⟩, ⟨[.pv (.sl .str)], []⟩, fun a => s_l7Put_m N a.1 a.2⟩
theorem jgt (N : Nat) : ModelOk Tryz.prog 187 (je5 N) :=
 mO ja Tryz.func187 rfl N (.seq .no (.seq .no (.seq (.block (.loop jl5 .no)) .no))) (je5 N)
def joT : Sh := ⟨.pv Y3 :: .dead :: .dead :: .pv (.sl .str) :: .pv (.int .i64) :: dz 30 [], []⟩
def jkn : Sh := ⟨.pv Y3 :: .dead :: .dead :: .pv (.sl .str) :: .pv (.int .i64) :: .pv (.int .i64) :: dz 29 [], []⟩
def jcK (N : Nat) (docs : List Z3) : Z15 :=
 (iter (fun go (g : (List Z3) × (List Z0) × Int) =>
 match g with
 | (docs2, out, i) =>
 (bif (decide (i < (docs2.length : Int))) then
 (iter (fun go2 (g : (List Z3) × (List Z0) × Int × Int) =>
 match g with
 | (docs3, out2, i2, k) =>
 (Option.bind (idx docs3 i2) fun e =>
 (bif (decide (k < (e.2.1.length : Int))) then
 (Option.bind (idx docs3 i2) fun e2 =>
 (Option.bind (idx e2.2.1 k) fun e3 =>
 (Option.bind (s_l7Put_m N out2 e3.1) fun r =>
 (if fits (k + 1) then (go2 (docs3, r, i2, (k + 1))) else none))))
 else
 (if fits (i2 + 1) then (go (docs3, out2, (i2 + 1))) else none)))) N (docs2, out, i, 0))
 else
 (some out))) N (docs, ([] : List Z0), 0))
def jiv (N : Nat) : Model := ⟨⟨[.pv Y3], []⟩, ⟨[.pv (.sl .str)], []⟩, fun a => jcK N a⟩
theorem jlz (N : Nat) : ModelOk Tryz.prog 143 (jiv N) :=
 mO (fC (jgt N) ja) Tryz.func143 rfl N (.seq .no (.seq .no (.seq (.seq .no (.block (.loop joT (.seq .no (.seq (.block (.seq .no (.block (.loop jkn .no)))) .no))))) .no))) (jiv N)
def jl8 : Sh := ⟨.dead :: .pv .str :: .box 2 0 :: .dead :: .dead :: .pv (.int .i64) :: dz 21 [], [(2, false, [.pv (.int .i64), .pv Y16, .pv Y13])]⟩
def s_l6Field_m (N : Nat) (d : Int) (d2 : Z18) (d3 : Z8) (name : List UInt8) : Option (Z0) :=
 (iter (fun go (g : Z0 × Int × Int × Z19 × Z11) =>
 match g with
 | (name2, i, d4, d5, d6) =>
 (bif (decide (i < (d5.length : Int))) then
 (Option.bind (idx d5 i) fun e =>
 (bif (decide (e.1 = name2)) then
 (Option.bind (idx d5 i) fun e2 =>
 (some e2.2))
 else
 (if fits (i + 1) then (go (name2, (i + 1), d4, d5, d6)) else none)))
 else
 (some ([] : List UInt8)))) N (name, 0, d, d2, d3))
def jew (N : Nat) : Model := ⟨⟨[.agg [.pv (.int .i64), .pv Y16, .pv Y13], .pv .str], []⟩, ⟨[.pv .str], []⟩, fun a => s_l6Field_m N a.1 a.2.1 a.2.2.1 a.2.2.2⟩
theorem jhA (N : Nat) : ModelOk Tryz.prog 189 (jew N) :=
 mO ja Tryz.func189 rfl N (.seq .no (.seq (.seq .no (.block (.loop jl8 .no))) .no)) (jew N)
def jt (N : Nat) (b : Int) : Z20 :=
 (bif (decide ((65 : Int) ≤ b)) then
 (bif (decide (b ≤ 90)) then
 (some (IntKind.u8.wrap (b + 32)))
 else
 (bif (decide ((97 : Int) ≤ b)) then
 (bif (decide (b ≤ 122)) then
 (some b)
 else
 (bif (decide ((48 : Int) ≤ b)) then
 (bif (decide (b ≤ 57)) then
 (some b)
 else
 (some 0))
 else
 (some 0)))
 else
 (bif (decide ((48 : Int) ≤ b)) then
 (bif (decide (b ≤ 57)) then
 (some b)
 else
 (some 0))
 else
 (some 0))))
 else
 (bif (decide ((97 : Int) ≤ b)) then
 (bif (decide (b ≤ 122)) then
 (some b)
 else
 (bif (decide ((48 : Int) ≤ b)) then
 (bif (decide (b ≤ 57)) then
 (some b)
 else
 (some 0))
 else
 (some 0)))
 else
 (bif (decide ((48 : Int) ≤ b)) then
 (bif (decide (b ≤ 57)) then
 (some b)
 else
 (some 0))
 else
 (some 0))))
def jfe (N : Nat) : Model := ⟨⟨[.pv (.int .u8)], []⟩, ⟨[.pv (.int .u8)], []⟩, fun a => jt N a⟩
theorem jfG (N : Nat) : ModelOk Tryz.prog 184 (jfe N) :=
 mO ja Tryz.func184 rfl N .no (jfe N)
def jo3 : Sh := ⟨.pv .str :: .dead :: .dead :: .own 600003 Y7 213 true :: .pv (.int .i64) :: dz 50 [], []⟩
def jm6 : Sh := ⟨.pv .str :: .dead :: .dead :: .own 600003 Y7 213 true :: .pv (.int .i64) :: .own 600005 (.int .u8) 5 true :: .pv (.int .i64) :: dz 48 [], []⟩
def jtK : Sh := ⟨.pv .str :: .dead :: .dead :: .own 600003 Y7 213 true :: .pv (.int .i64) :: .pv (.sl (.int .u8)) :: .pv (.int .i64) :: dz 48 [], []⟩
def jb3 (N : Nat) (s : List UInt8) : Option ((List Z9)) :=
 (iter (fun go (g : Z0 × (List Z9) × Int) =>
 match g with
 | (s2, out, i) =>
 (bif (decide (i < (s2.length : Int))) then
 (iter (fun go2 (g : Z0 × (List Z9) × Int × (List Int) × Int) =>
 match g with
 | (s3, out2, i2, w, from0) =>
 (bif (decide (i2 < (s3.length : Int))) then
 (Option.bind (idx s3 i2) fun c =>
 (Option.bind (jt N (c.toNat : Int)) fun r =>
 (bif (!decide (r = 0)) then
 (Option.bind (idx s3 i2) fun c2 =>
 (Option.bind (jt N (c2.toNat : Int)) fun r2 =>
 (if room w.length ([r2] : List Int).length 1 then
 (if fits (i2 + 1) then (go2 (s3, out2, (i2 + 1), (w ++ ([r2] : List Int)), from0)) else none)
 else none)))
 else
 (meet (fun (g : Z0 × (List Z9) × Int × (List Int) × Int) =>
 match g with
 | (s4, out3, i3, w2, from02) =>
 (bif (decide ((0 : Int) < (w2.length : Int))) then
 (if room out3.length ([((bytesOf w2), (out3.length : Int), from02, i3)] : List Z9).length 40 then
 (if fits (i3 + 1) then (go (s4, (out3 ++ ([((bytesOf w2), (out3.length : Int), from02, i3)] : List Z9)), (i3 + 1))) else none)
 else none)
 else
 (if fits (i3 + 1) then (go (s4, out3, (i3 + 1))) else none))) fun J =>
 (bif (decide ((12 : Int) < (w.length : Int))) then
 (Option.bind (cut w 0 12) fun y =>
 (J (s3, out2, i2, y, from0)))
 else
 (J (s3, out2, i2, w, from0)))))))
 else
 (meet (fun (g : Z0 × (List Z9) × Int × (List Int) × Int) =>
 match g with
 | (s5, out4, i4, w3, from03) =>
 (bif (decide ((0 : Int) < (w3.length : Int))) then
 (if room out4.length ([((bytesOf w3), (out4.length : Int), from03, i4)] : List Z9).length 40 then
 (if fits (i4 + 1) then (go (s5, (out4 ++ ([((bytesOf w3), (out4.length : Int), from03, i4)] : List Z9)), (i4 + 1))) else none)
 else none)
 else
 (if fits (i4 + 1) then (go (s5, out4, (i4 + 1))) else none))) fun J2 =>
 (bif (decide ((12 : Int) < (w.length : Int))) then
 (Option.bind (cut w 0 12) fun y2 =>
 (J2 (s3, out2, i2, y2, from0)))
 else
 (J2 (s3, out2, i2, w, from0)))))) N (s2, out, i, ([] : List Int), i))
 else
 (some out))) N (s, ([] : List Z9), 0))
def jg2 (N : Nat) : Model := ⟨⟨[.pv .str], []⟩, ⟨[.own 1 Y7 213 true], []⟩, fun a => jb3 N a⟩
theorem jsr (N : Nat) : ModelOk Tryz.prog 236 (jg2 N) :=
 mO (fC (jfG N) ja) Tryz.func236 rfl N (.seq .no (.seq .no (.seq (.seq .no (.block (.loop jo3 (.seq .no (.seq (.block (.seq .no (.seq .no (.seq (.block (.loop jm6 .no)) (.meet jtK .no .no))))) .no))))) .no))) (jg2 N)
def jdI (N : Nat) : Z15 :=
 (some ([([105, 110, 103] : List UInt8), ([101, 100] : List UInt8), ([101, 115] : List UInt8), ([108, 121] : List UInt8), ([115] : List UInt8)] : List Z0))
def jjr (N : Nat) : Model := ⟨⟨[], []⟩, ⟨[.own 1 .str 9 true], []⟩, fun a => jdI N ⟩
theorem jkj (N : Nat) : ModelOk Tryz.prog 222 (jjr N) :=
 mO ja Tryz.func222 rfl N .no (jjr N)
def jl2 : Sh := ⟨.pv .str :: .dead :: .dead :: .pv (.int .i64) :: dz 30 [], []⟩
def ja6 (N : Nat) (s : List UInt8) : Option (Z0) :=
 (iter (fun go (g : Z0 × Int) =>
 match g with
 | (s2, i) =>
 (Option.bind (jdI N) fun r =>
 (bif (decide (i < (r.length : Int))) then
 (Option.bind (jdI N) fun r2 =>
 (Option.bind (idx r2 i) fun e =>
 (if fits ((s2.length : Int) - (e.length : Int)) then (bif (decide ((3 : Int) ≤ ((s2.length : Int) - (e.length : Int)))) then
 (Option.bind (cut s2 ((s2.length : Int) - (e.length : Int)) (s2.length : Int)) fun y =>
 (bif (decide (y = e)) then
 (Option.bind (cut s2 0 ((s2.length : Int) - (e.length : Int))) fun y2 =>
 (some y2))
 else
 (if fits (i + 1) then (go (s2, (i + 1))) else none)))
 else
 (if fits (i + 1) then (go (s2, (i + 1))) else none)) else none)))
 else
 (some s2)))) N (s, 0))
def jjX (N : Nat) : Model := ⟨⟨[.pv .str], []⟩, ⟨[.pv .str], []⟩, fun a => ja6 N a⟩
theorem jtL (N : Nat) : ModelOk Tryz.prog 185 (jjX N) :=
 mO (fC (jkj N) ja) Tryz.func185 rfl N (.seq .no (.seq (.seq .no (.block (.loop jl2 .no))) .no)) (jjX N)
def jto : Sh := ⟨.pv .str :: dz 9 [], []⟩
def jaq (N : Nat) (s : List UInt8) : Option (Z0) :=
 (iter (fun go (g : Z0) => let s2 := g;
 (Option.bind (ja6 N s2) fun r =>
 (bif (!decide (r = s2)) then
 (Option.bind (ja6 N s2) fun r2 =>
 (go r2))
 else
 (some s2)))) N s)
def jeu (N : Nat) : Model := ⟨⟨[.pv .str], []⟩, ⟨[.pv .str], []⟩, fun a => jaq N a⟩
theorem jfZ (N : Nat) : ModelOk Tryz.prog 140 (jeu N) :=
 mO (fC (jtL N) ja) Tryz.func140 rfl N (.seq .no (.seq (.block (.loop jto .no)) .no)) (jeu N)
def jlY : Sh := ⟨.pv (.sl .str) :: .pv .str :: dz 3 (.pv (.int .i64) :: dz 12 []), []⟩
def jap (N : Nat) (list : List Z0) (s : List UInt8) : Z13 :=
 (iter (fun go (g : (List Z0) × Z0 × Int) =>
 match g with
 | (list2, s2, i) =>
 (bif (decide (i < (list2.length : Int))) then
 (Option.bind (idx list2 i) fun e =>
 (bif (decide (e = s2)) then
 (some true)
 else
 (if fits (i + 1) then (go (list2, s2, (i + 1))) else none)))
 else
 (some false))) N (list, s, 0))
def jfc (N : Nat) : Model := ⟨⟨[.pv (.sl .str), .pv .str], []⟩, ⟨[.pv .bool], []⟩, fun a => jap N a.1 a.2⟩
theorem jhP (N : Nat) : ModelOk Tryz.prog 141 (jfc N) :=
 mO ja Tryz.func141 rfl N (.seq .no (.seq (.seq .no (.block (.loop jlY .no))) .no)) (jfc N)
def jmf : Sh := ⟨.dead :: .dead :: .box 2 0 :: .dead :: .dead :: .own 600005 Y15 146 true :: .own 600006 Y7 213 true :: .pv (.int .i64) :: dz 43 [], [(2, false, [.pv (.sl .str), .pv Y14])]⟩
def jbY (N : Nat) (c : List Z0) (c2 : List Z6) (s : List UInt8) : Option (Z11) :=
 (Option.bind (jb3 N s) fun r =>
 (iter (fun go (g : Z11 × (List Z9) × Int × (List Z0) × (List Z6)) =>
 match g with
 | (out, words, i, c3, c4) =>
 (bif (decide (i < (words.length : Int))) then
 (Option.bind (idx words i) fun e =>
 (Option.bind (jaq N e.1) fun r2 =>
 (Option.bind (idx words i) fun e2 =>
 (Option.bind (jap N c3 e2.1) fun r3 =>
 (bif (!r3) then
 (Option.bind (jap N c3 r2) fun r4 =>
 (bif (!r4) then
 (Option.bind (idx words i) fun e3 =>
 (if room out.length ([(r2, e3.2.1)] : Z8).length 24 then
 (if fits (i + 1) then (go ((out ++ ([(r2, e3.2.1)] : Z8)), words, (i + 1), c3, c4)) else none)
 else none))
 else
 (if fits (i + 1) then (go (out, words, (i + 1), c3, c4)) else none)))
 else
 (if fits (i + 1) then (go (out, words, (i + 1), c3, c4)) else none))))))
 else
 (some out))) N (([] : Z8), r, 0, c, c2)))
def jgF (N : Nat) : Model := ⟨⟨[.agg [.pv (.sl .str), .pv Y14], .pv .str], []⟩, ⟨[.own 1 Y15 146 true], []⟩, fun a => jbY N a.1 a.2.1 a.2.2⟩
theorem jrk (N : Nat) : ModelOk Tryz.prog 223 (jgF N) :=
 mO (fC (jsr N) (fC (jfZ N) (fC (jhP N) ja))) Tryz.func223 rfl N (.seq .no (.seq .no (.seq .no (.seq (.seq .no (.block (.loop jmf .no))) .no)))) (jgF N)
def jrL : Sh := ⟨.pv Y13 :: .pv (.sl .str) :: dz 3 (.pv (.int .i64) :: dz 36 []), []⟩
def jcC (N : Nat) (list : Z8) (from0 : List Z0) : Z13 :=
 (iter (fun go (g : Z11 × (List Z0) × Int) =>
 match g with
 | (list2, from02, i) =>
 (bif (decide (i < (from02.length : Int))) then
 (bif (decide ((list2.length : Int) ≤ i)) then
 (some false)
 else
 (Option.bind (idx list2 i) fun e =>
 (Option.bind (idx from02 i) fun e2 =>
 (bif (!decide (e.1 = e2)) then
 (some false)
 else
 (Option.bind (idx list2 i) fun e3 =>
 (Option.bind (idx list2 0) fun e4 =>
 (if fits (e4.2 + i) then (bif (!decide (e3.2 = (e4.2 + i))) then
 (some false)
 else
 (if fits (i + 1) then (go (list2, from02, (i + 1))) else none)) else none)))))))
 else
 (some true))) N (list, from0, 0))
def jeX (N : Nat) : Model := ⟨⟨[.pv Y13, .pv (.sl .str)], []⟩, ⟨[.pv .bool], []⟩, fun a => jcC N a.1 a.2⟩
theorem jtg (N : Nat) : ModelOk Tryz.prog 237 (jeX N) :=
 mO ja Tryz.func237 rfl N (.seq .no (.seq (.seq .no (.block (.loop jrL .no))) .no)) (jeX N)
def jlL : Sh := ⟨.dead :: .pv Y13 :: .box 2 0 :: .dead :: .dead :: .pv (.int .i64) :: .pv (.int .i64) :: dz 38 [], [(2, false, [.pv (.sl .str), .pv Y14])]⟩
def jcJ (N : Nat) (c : List Z0) (c2 : List Z6) (list : Z8) : Z20 :=
 (iter (fun go (g : Z11 × Int × Int × (List Z0) × (List Z6)) =>
 match g with
 | (list2, best, i, c3, c4) =>
 (bif (decide (i < (c4.length : Int))) then
 (Option.bind (idx c4 i) fun e =>
 (Option.bind (jcC N list2 e.1) fun r =>
 (bif r then
 (bif (decide (best < 0)) then
 (if fits (i + 1) then (go (list2, i, (i + 1), c3, c4)) else none)
 else
 (Option.bind (idx c4 i) fun e2 =>
 (Option.bind (idx c4 best) fun e3 =>
 (bif (decide ((e3.1.length : Int) < (e2.1.length : Int))) then
 (if fits (i + 1) then (go (list2, i, (i + 1), c3, c4)) else none)
 else
 (if fits (i + 1) then (go (list2, best, (i + 1), c3, c4)) else none)))))
 else
 (if fits (i + 1) then (go (list2, best, (i + 1), c3, c4)) else none))))
 else
 (some best))) N (list, (-1), 0, c, c2))
def jiH (N : Nat) : Model := ⟨⟨[.agg [.pv (.sl .str), .pv Y14], .pv Y13], []⟩, ⟨[.pv (.int .i64)], []⟩, fun a => jcJ N a.1 a.2.1 a.2.2⟩
theorem jqp (N : Nat) : ModelOk Tryz.prog 224 (jiH N) :=
 mO (fC (jtg N) ja) Tryz.func224 rfl N (.seq .no (.seq .no (.seq (.seq .no (.block (.loop jlL .no))) .no))) (jiH N)
def jnK : Sh := ⟨.dead :: .dead :: .box 2 0 :: .dead :: .dead :: .own 600005 Y15 146 true :: .pv Y13 :: dz 45 [], [(2, false, [.pv (.sl .str), .pv Y14])]⟩
def ja5 (N : Nat) (c : List Z0) (c2 : List Z6) (s : List UInt8) : Option (Z11) :=
 (Option.bind (jbY N c c2 s) fun r =>
 (iter (fun go (g : Z11 × Z11 × (List Z0) × (List Z6)) =>
 match g with
 | (out, list, c3, c4) =>
 (bif (decide ((0 : Int) < (list.length : Int))) then
 (Option.bind (jcJ N c3 c4 list) fun r2 =>
 (bif (decide (r2 < 0)) then
 (Option.bind (idx list 0) fun e =>
 (if room out.length ([e] : Z8).length 24 then
 (Option.bind (cut list 1 (list.length : Int)) fun y =>
 (go ((out ++ ([e] : Z8)), y, c3, c4)))
 else none))
 else
 (Option.bind (idx c4 r2) fun e2 =>
 (Option.bind (idx list 0) fun e3 =>
 (if room out.length ([(e2.2, e3.2)] : Z8).length 24 then
 (Option.bind (idx c4 r2) fun e4 =>
 (Option.bind (cut list (e4.1.length : Int) (list.length : Int)) fun y2 =>
 (go ((out ++ ([(e2.2, e3.2)] : Z8)), y2, c3, c4))))
 else none)))))
 else
 (some out))) N (([] : Z8), r, c, c2)))
def je6 (N : Nat) : Model := ⟨⟨[.agg [.pv (.sl .str), .pv Y14], .pv .str], []⟩, ⟨[.own 1 Y15 146 true], []⟩, fun a => ja5 N a.1 a.2.1 a.2.2⟩
theorem jiO (N : Nat) : ModelOk Tryz.prog 188 (je6 N) :=
 mO (fC (jrk N) (fC (jqp N) ja)) Tryz.func188 rfl N (.seq .no (.seq .no (.seq .no (.seq (.block (.loop jnK .no)) .no)))) (je6 N)
def jn9 : Sh := ⟨.dead :: .pv Y3 :: .pv .str :: .box 3 0 :: dz 3 (.pv (.sl .str) :: .pv (.int .i64) :: dz 31 []), [(3, false, [.pv (.sl .str), .pv Y14])]⟩
def jrT : Sh := ⟨.dead :: .pv Y3 :: .pv .str :: .box 3 0 :: dz 3 (.pv (.sl .str) :: .pv (.int .i64) :: .own 600009 Y15 146 true :: .pv (.int .i64) :: dz 29 []), [(3, false, [.pv (.sl .str), .pv Y14])]⟩
def jck (N : Nat) (c : List Z0) (c2 : List Z6) (docs : List Z3) (field : List UInt8) : Z15 :=
 (iter (fun go (g : (List Z3) × Z0 × (List Z0) × Int × (List Z0) × (List Z6)) =>
 match g with
 | (docs2, field2, out, i, c3, c4) =>
 (bif (decide (i < (docs2.length : Int))) then
 (Option.bind (idx docs2 i) fun e =>
 (Option.bind (s_l6Field_m N e.1 e.2.1 e.2.2 field2) fun r =>
 (Option.bind (ja5 N c3 c4 r) fun r2 =>
 (iter (fun go2 (g : (List Z3) × Z0 × (List Z0) × Int × Z11 × Int × (List Z0) × (List Z6)) =>
 match g with
 | (docs3, field3, out2, i2, list, k, c5, c6) =>
 (bif (decide (k < (list.length : Int))) then
 (Option.bind (idx list k) fun e2 =>
 (Option.bind (s_l7Put_m N out2 e2.1) fun r3 =>
 (if fits (k + 1) then (go2 (docs3, field3, r3, i2, list, (k + 1), c5, c6)) else none)))
 else
 (if fits (i2 + 1) then (go (docs3, field3, out2, (i2 + 1), c5, c6)) else none))) N (docs2, field2, out, i, r2, 0, c3, c4)))))
 else
 (some out))) N (docs, field, ([] : List Z0), 0, c, c2))
def ji5 (N : Nat) : Model := ⟨⟨[.agg [.pv (.sl .str), .pv Y14], .pv Y3, .pv .str], []⟩, ⟨[.pv (.sl .str)], []⟩, fun a => jck N a.1 a.2.1 a.2.2.1 a.2.2.2⟩
theorem jqQ (N : Nat) : ModelOk Tryz.prog 144 (ji5 N) :=
 mO (fC (jhA N) (fC (jiO N) (fC (jgt N) ja))) Tryz.func144 rfl N (.seq .no (.seq .no (.seq (.seq .no (.block (.loop jn9 (.seq .no (.seq (.block (.seq .no (.seq .no (.block (.loop jrT .no))))) .no))))) .no))) (ji5 N)
def jnY : Sh := ⟨dz 3 (.pv .str :: dz 5 (.own 600009 (.int .i64) 3 true :: .own 600010 Y15 146 true :: .pv (.int .i64) :: dz 28 [])), []⟩
def s_l7Post_m (N : Nat) (c : List Z0) (c2 : List Z6) (d : Int) (d2 : Z18) (d3 : Z8) (field : List UInt8) (term : List UInt8) : Option ((List Int)) :=
 (Option.bind (s_l6Field_m N d d2 d3 field) fun r =>
 (Option.bind (ja5 N c c2 r) fun r2 =>
 (iter (fun go (g : Z0 × (List Int) × Z11 × Int) =>
 match g with
 | (term2, out, list, i) =>
 (bif (decide (i < (list.length : Int))) then
 (Option.bind (idx list i) fun e =>
 (bif (decide (e.1 = term2)) then
 (Option.bind (idx list i) fun e2 =>
 (if room out.length ([e2.2] : List Int).length 8 then
 (if fits (i + 1) then (go (term2, (out ++ ([e2.2] : List Int)), list, (i + 1))) else none)
 else none))
 else
 (if fits (i + 1) then (go (term2, out, list, (i + 1))) else none)))
 else
 (some out))) N (term, ([] : List Int), r2, 0))))
def jir (N : Nat) : Model := ⟨⟨[.agg [.pv (.sl .str), .pv Y14], .agg [.pv (.int .i64), .pv Y16, .pv Y13], .pv .str, .pv .str], []⟩, ⟨[.own 1 (.int .i64) 3 true], []⟩, fun a => s_l7Post_m N a.1 a.2.1 a.2.2.1 a.2.2.2.1 a.2.2.2.2.1 a.2.2.2.2.2.1 a.2.2.2.2.2.2⟩
theorem js6 (N : Nat) : ModelOk Tryz.prog 190 (jir N) :=
 mO (fC (jhA N) (fC (jiO N) ja)) Tryz.func190 rfl N (.seq .no (.seq .no (.seq .no (.seq (.seq .no (.block (.loop jnY .no))) .no)))) (jir N)
def jkw : Sh := ⟨.dead :: .pv Y3 :: .pv .str :: .pv .str :: .box 4 0 :: dz 3 (.box 8 0 :: .box 9 0 :: .pv (.int .i64) :: dz 34 []), [(4, false, [.pv (.sl .str), .pv Y14]), (8, false, [.pv .str, .pv .str, .nils]), (9, false, [.pv .str, .pv .str, .own 700902 Y12 152 true])]⟩
def s_l7Entry_m (N : Nat) (c : List Z0) (c2 : List Z6) (docs : List Z3) (field : List UInt8) (term : List UInt8) : Option Z2 :=
 (iter (fun go (g : (List Z3) × Z0 × Z0 × Int × (List Z0) × (List Z6) × Z0 × Z0 × Z0 × Z0 × Z12) =>
 match g with
 | (docs2, field2, term2, i, c3, c4, b, b2, e, e2, e3) =>
 (bif (decide (i < (docs2.length : Int))) then
 (Option.bind (idx docs2 i) fun e4 =>
 (Option.bind (s_l7Post_m N c3 c4 e4.1 e4.2.1 e4.2.2 field2 term2) fun r =>
 (bif (decide ((0 : Int) < (r.length : Int))) then
 (Option.bind (idx docs2 i) fun e5 =>
 (if room e3.length ([(e5.1, r)] : Z5).length 32 then
 (if fits (i + 1) then (go (docs2, field2, term2, (i + 1), c3, c4, b, b2, e, e2, (e3 ++ ([(e5.1, r)] : Z5)))) else none)
 else none))
 else
 (if fits (i + 1) then (go (docs2, field2, term2, (i + 1), c3, c4, b, b2, e, e2, e3)) else none))))
 else
 (some (e, e2, e3)))) N (docs, field, term, 0, c, c2, ([] : List UInt8), ([] : List UInt8), field, term, ([] : Z5)))
def jeq (N : Nat) : Model := ⟨⟨[.agg [.pv (.sl .str), .pv Y14], .pv Y3, .pv .str, .pv .str], []⟩, ⟨[.agg [.pv .str, .pv .str, .own 1 Y12 152 true]], []⟩, fun a => s_l7Entry_m N a.1 a.2.1 a.2.2.1 a.2.2.2.1 a.2.2.2.2⟩
theorem jtr (N : Nat) : ModelOk Tryz.prog 145 (jeq N) :=
 mO (fC (js6 N) ja) Tryz.func145 rfl N (.seq .no (.seq .no (.seq (.seq .no (.block (.loop jkw .no))) .no))) (jeq N)
def jb9 (N : Nat) (d : Int) (d2 : Z18) (d3 : Z8) : Option Z3 :=
 (if room ([] : Z18).length d2.length 32 then
 (if room ([] : Z8).length d3.length 24 then
 (some (d, (([] : Z18) ++ d2), (([] : Z8) ++ d3)))
 else none)
 else none)
def jfx (N : Nat) : Model := ⟨⟨[.agg [.pv (.int .i64), .pv Y16, .pv Y13]], []⟩, ⟨[.agg [.pv (.int .i64), .own 1 Y18 142 true, .own 2 Y15 209 true]], []⟩, fun a => jb9 N a.1 a.2.1 a.2.2⟩
theorem jtC (N : Nat) : ModelOk Tryz.prog 146 (jfx N) :=
 mO ja Tryz.func146 rfl N .no (jfx N)
def jn8 : Sh := ⟨.dead :: .pv Y3 :: .box 2 0 :: .dead :: .box 4 0 :: .box 5 0 :: .pv (.sl .str) :: .pv (.int .i64) :: dz 58 [], [(2, false, [.pv (.sl .str), .pv Y14]), (4, false, [.nils, .nils]), (5, false, [.nils, .own 700501 Y6 91 true])]⟩
def jpr : Sh := ⟨.dead :: .pv Y3 :: .box 2 0 :: .dead :: .box 4 0 :: .box 5 0 :: .pv (.sl .str) :: .pv (.int .i64) :: .pv (.sl .str) :: .pv (.int .i64) :: dz 56 [], [(2, false, [.pv (.sl .str), .pv Y14]), (4, false, [.nils, .nils]), (5, false, [.nils, .own 700501 Y6 91 true])]⟩
def jn0 : Sh := ⟨.dead :: .pv Y3 :: .dead :: .dead :: .box 4 0 :: .box 5 0 :: dz 4 (.pv (.int .i64) :: dz 55 []), [(4, false, [.nils, .nils]), (5, false, [.own 700500 Y4 46 true, .own 700501 Y6 91 true])]⟩
def jb8 (N : Nat) (c : List Z0) (c2 : List Z6) (docs : List Z3) : Option ((List Z3) × (List Z2)) :=
 (Option.bind (jcK N docs) fun r =>
 (iter (fun go (g : (List Z3) × (List Z0) × Int × (List Z0) × (List Z6) × (List Z2)) =>
 match g with
 | (docs2, names, i, c3, c4, s) =>
 (bif (decide (i < (names.length : Int))) then
 (Option.bind (idx names i) fun e =>
 (Option.bind (jck N c3 c4 docs2 e) fun r2 =>
 (iter (fun go2 (g : (List Z3) × (List Z0) × Int × (List Z0) × Int × (List Z0) × (List Z6) × (List Z2)) =>
 match g with
 | (docs3, names2, i2, terms, k, c5, c6, s2) =>
 (bif (decide (k < (terms.length : Int))) then
 (Option.bind (idx names2 i2) fun e2 =>
 (Option.bind (idx terms k) fun e3 =>
 (Option.bind (s_l7Entry_m N c5 c6 docs3 e2 e3) fun r3 =>
 (if room s2.length ([r3] : List Z2).length 56 then
 (if fits (k + 1) then (go2 (docs3, names2, i2, terms, (k + 1), c5, c6, (s2 ++ ([r3] : List Z2)))) else none)
 else none))))
 else
 (if fits (i2 + 1) then (go (docs3, names2, (i2 + 1), c5, c6, s2)) else none))) N (docs2, names, i, r2, 0, c3, c4, s))))
 else
 (iter (fun go3 (g : (List Z3) × Int × (List Z3) × (List Z2)) =>
 match g with
 | (docs4, i3, s3, s4) =>
 (bif (decide (i3 < (docs4.length : Int))) then
 (Option.bind (idx docs4 i3) fun e4 =>
 (Option.bind (jb9 N e4.1 e4.2.1 e4.2.2) fun r4 =>
 (if room s3.length ([r4] : List Z3).length 56 then
 (if fits (i3 + 1) then (go3 (docs4, (i3 + 1), (s3 ++ ([r4] : List Z3)), s4)) else none)
 else none)))
 else
 (some (s3, s4)))) N (docs2, 0, ([] : List Z3), s)))) N (docs, r, 0, c, c2, ([] : List Z2))))
def jeO (N : Nat) : Model := ⟨⟨[.agg [.pv (.sl .str), .pv Y14], .pv Y3], []⟩, ⟨[.agg [.own 1 Y4 46 true, .own 2 Y6 91 true]], []⟩, fun a => jb8 N a.1 a.2.1 a.2.2⟩
theorem jmU (N : Nat) : ModelOk Tryz.prog 92 (jeO N) :=
 mO (fC (jlz N) (fC (jqQ N) (fC (jtr N) (fC (jtC N) ja)))) Tryz.func92 rfl N (.seq .no (.seq .no (.seq .no (.seq (.seq .no (.block (.loop jn8 (.seq .no (.seq (.block (.seq .no (.seq .no (.block (.loop jpr .no))))) .no))))) (.seq (.seq .no (.block (.loop jn0 .no))) .no))))) (jeO N)
def s_l30Seg_m (N : Nat) (b : List Int) (b2 : Int) : Option ((List Z0) × (List Z6) × (List Z3) × (List Z2) × (List Int) × Int) :=
 (Option.bind (s_l30Conf_m N b b2) fun r =>
 (Option.bind (s_l30Docs_m N r.2.2.1 r.2.2.2) fun r2 =>
 (Option.bind (jb8 N r.1 r.2.1 r2.1) fun r3 =>
 (some (r.1, r.2.1, r3.1, r3.2, r2.2.1, r2.2.2)))))
def jug (N : Nat) : Model := ⟨⟨[.box 900000 0], [(900000, false, [.pv (.sl (.int .u8)), .pv (.int .i64)])]⟩, ⟨[.tup [.agg [.own 1 .str 9 true, .own 2 Y17 137 true], .agg [.tre 3 Y4 46, .tre 4 Y6 91]]], [(900000, false, [.pv (.sl (.int .u8)), .pv (.int .i64)])]⟩, fun a => s_l30Seg_m N a.1 a.2⟩
theorem jvc (N : Nat) : ModelOk Tryz.prog 81 (jug N) :=
 mO (fC (jva N) (fC (juO N) (fC (jmU N) ja))) Tryz.func81 rfl N .no (jug N) (rs := [900000]) (dw := [11])
def s_l30AnySeg_m (N : Nat) (b : List Int) (b2 : Int) : Option ((List Z0) × (List Z6) × (List Z3) × (List Z2) × (List Int) × Int) :=
 (Option.bind (s_l30Seg_m N b b2) fun r =>
 (bif (decide ((0 : Int) < (r.2.2.2.1.length : Int))) then
 (Option.bind (jtW N (r.2.2.2.1.length : Int) r.2.2.2.2.1 r.2.2.2.2.2) fun r2 =>
 (Option.bind (jtW N 16 r2.2.1 r2.2.2) fun r3 =>
 (bif (decide (r3.1 = 0)) then
 (if 0 ≤ r2.1 ∧ r2.1 < (r.2.2.2.1.length : Int) then
 (Option.bind (r.2.2.2.1[r2.1.toNat]?) fun e =>
 (some (r.1, r.2.1, r.2.2.1, (r.2.2.2.1.set r2.1.toNat (e.1, ([122, 122, 122] : List UInt8), e.2.2)), r3.2.1, r3.2.2)))
 else none)
 else
 (bif (decide (r3.1 = 1)) then
 (if 0 ≤ r2.1 ∧ r2.1 < (r.2.2.2.1.length : Int) then
 (Option.bind (r.2.2.2.1[r2.1.toNat]?) fun e2 =>
 (if room r.2.2.2.1.length ([e2] : List Z2).length 56 then
 (some (r.1, r.2.1, r.2.2.1, (r.2.2.2.1 ++ ([e2] : List Z2)), r3.2.1, r3.2.2))
 else none))
 else none)
 else
 (bif (decide (r3.1 = 2)) then
 (Option.bind (cut r.2.2.1 1 (r.2.2.1.length : Int)) fun y =>
 (some (r.1, r.2.1, y, r.2.2.2.1, r3.2.1, r3.2.2)))
 else
 (some (r.1, r.2.1, r.2.2.1, r.2.2.2.1, r3.2.1, r3.2.2)))))))
 else
 (some (r.1, r.2.1, r.2.2.1, r.2.2.2.1, r.2.2.2.2.1, r.2.2.2.2.2))))
def juu (N : Nat) : Model := ⟨⟨[.box 900000 0], [(900000, false, [.pv (.sl (.int .u8)), .pv (.int .i64)])]⟩, ⟨[.tup [.agg [.own 1 .str 9 true, .own 2 Y17 137 true], .agg [.pv Y3, .own 3 Y6 91 false]]], [(900000, false, [.pv (.sl (.int .u8)), .pv (.int .i64)])]⟩, fun a => s_l30AnySeg_m N a.1 a.2⟩
theorem juW (N : Nat) : ModelOk Tryz.prog 35 (juu N) :=
 mO (fC (jvc N) (fC (jtX N) ja)) Tryz.func35 rfl N (.seq .no (.seq .no (.seq (.seq (.touch [.thaw 5 0, .thaw 5 1]) .no) .no))) (juu N) (wr := [39, 40, 46]) (rs := [900000])
def s_l30Field_m (N : Nat) (b : List Int) (b2 : Int) : Option (Z0 × (List Int) × Int) :=
 (Option.bind (jtY N ([([98, 111, 100, 121] : List UInt8), ([98, 111, 100, 121] : List UInt8), ([116, 105, 116, 108, 101] : List UInt8), ([110, 111, 110, 101] : List UInt8)] : List Z0) b b2) fun r =>
 (some (r.1, r.2.1, r.2.2)))
def juh (N : Nat) : Model := ⟨⟨[.box 900000 0], [(900000, false, [.pv (.sl (.int .u8)), .pv (.int .i64)])]⟩, ⟨[.pv .str], [(900000, false, [.pv (.sl (.int .u8)), .pv (.int .i64)])]⟩, fun a => s_l30Field_m N a.1 a.2⟩
theorem ju5 (N : Nat) : ModelOk Tryz.prog 37 (juh N) :=
 mO (fC (jt3 N) ja) Tryz.func37 rfl N .no (juh N) (rs := [900000])
def s_l30Rd_one_m (N : Nat) (list : List Int) (b : List Int) (b2 : Int) : Option (Int × (List Int) × Int) :=
 (Option.bind (jtW N (list.length : Int) b b2) fun r =>
 (Option.bind (idx list r.1) fun e =>
 (some (e, r.2.1, r.2.2))))
def jut (N : Nat) : Model := ⟨⟨[.box 900000 0, .pv Y19], [(900000, false, [.pv (.sl (.int .u8)), .pv (.int .i64)])]⟩, ⟨[.pv (.int .i64)], [(900000, false, [.pv (.sl (.int .u8)), .pv (.int .i64)])]⟩, fun a => s_l30Rd_one_m N a.1 a.2.1 a.2.2⟩
theorem juA (N : Nat) : ModelOk Tryz.prog 38 (jut N) :=
 mO (fC (jtX N) ja) Tryz.func38 rfl N .no (jut N) (rs := [900000])
def ju0 : Sh := ⟨.dead :: .dead :: .box 2 0 :: .box 3 0 :: dz 3 (.box 13010 0 :: .box 8 0 :: .box 9 0 :: .pv (.int .i64) :: dz 36 []), [(2, false, [.nils, .nils]), (3, false, [.nils, .nils]), (8, false, [.own 16001 .str 9 true, .own 16002 Y17 137 true]), (9, false, [.pv Y3, .own 16003 Y6 91 false]), (13010, false, [.pv (.sl (.int .u8)), .pv (.int .i64)])]⟩
def s_DrawLikeTerms_m (N : Nat) (code : List Int) : Option ((List Z0) × (List Z6) × (List Z3) × (List Z2) × Z0 × Int × Int) :=
 (Option.bind (jt0 N code) fun r =>
 (Option.bind (s_l30AnySeg_m N r.1 r.2) fun r2 =>
 (Option.bind (jtW N 9 r2.2.2.2.2.1 r2.2.2.2.2.2) fun r3 =>
 (meet (fun (g : Int × (List Z0) × (List Z6) × (List Z3) × (List Z2) × (List Int) × Int) =>
 match g with
 | (id, c, c2, s, s2, b, b2) =>
 (Option.bind (s_l30Field_m N b b2) fun r6 =>
 (Option.bind (s_l30Rd_one_m N ([1, 2, 4, 0, 5] : List Int) r6.2.1 r6.2.2) fun r7 =>
 (some (c, c2, s, s2, r6.1, id, r7.1))))) fun J =>
 (bif (decide ((0 : Int) < (r2.2.2.1.length : Int))) then
 (Option.bind (jtW N 4 r3.2.1 r3.2.2) fun r4 =>
 (bif (decide ((0 : Int) < r4.1)) then
 (Option.bind (jtW N (r2.2.2.1.length : Int) r4.2.1 r4.2.2) fun r5 =>
 (Option.bind (idx r2.2.2.1 r5.1) fun e =>
 (J (e.1, r2.1, r2.2.1, r2.2.2.1, r2.2.2.2.1, r5.2.1, r5.2.2))))
 else
 (J (r3.1, r2.1, r2.2.1, r2.2.2.1, r2.2.2.2.1, r4.2.1, r4.2.2))))
 else
 (J (r3.1, r2.1, r2.2.1, r2.2.2.1, r2.2.2.2.1, r3.2.1, r3.2.2)))))))
def jul (N : Nat) : Model := ⟨⟨[.pv (.sl (.int .u8))], []⟩, ⟨[.tup [.agg [.own 1 .str 9 true, .own 2 Y17 137 true], .agg [.pv Y3, .own 3 Y6 91 false], .pv .str, .pv (.int .i64), .pv (.int .i64)]], []⟩, fun a => s_DrawLikeTerms_m N a⟩
theorem juH (N : Nat) : ModelOk Tryz.prog 7 (jul N) :=
 mO (fC (juQ N) (fC (juW N) (fC (jtX N) (fC (ju5 N) (fC (juA N) ja))))) Tryz.func7 rfl N (.seq .no (.seq .no (.seq .no (.seq .no (.meet ju0 .no .no))))) (jul N)
def jaw (N : Nat) (b : Int) : Z13 :=
 (bif (decide ((97 : Int) ≤ b)) then
 (bif (decide (b ≤ 122)) then
 (some true)
 else
 (bif (decide ((48 : Int) ≤ b)) then
 (some (decide (b ≤ 57)))
 else
 (some false)))
 else
 (bif (decide ((48 : Int) ≤ b)) then
 (some (decide (b ≤ 57)))
 else
 (some false)))
def jhf (N : Nat) : Model := ⟨⟨[.pv (.int .u8)], []⟩, ⟨[.pv .bool], []⟩, fun a => jaw N a⟩
theorem jeK (N : Nat) : ModelOk Tryz.prog 153 (jhf N) :=
 mO ja Tryz.func153 rfl N .no (jhf N)
def jm (N : Nat) (n : Int) (low : Int) (high : Int) : Z13 :=
 (bif (decide (low ≤ n)) then
 (some (decide (n ≤ high)))
 else
 (some false))
def jfi (N : Nat) : Model := ⟨⟨[.pv (.int .i64), .pv (.int .i64), .pv (.int .i64)], []⟩, ⟨[.pv .bool], []⟩, fun a => jm N a.1 a.2.1 a.2.2⟩
theorem jY (N : Nat) : ModelOk Tryz.prog 39 (jfi N) :=
 mO ja Tryz.func39 rfl N .no (jfi N)
def jqW : Sh := ⟨.pv .str :: dz 4 (.pv (.int .i64) :: .pv (.int .i64) :: dz 11 []), []⟩
def jO (N : Nat) (s : List UInt8) : Z13 :=
 (iter (fun go (g : Z0 × Int × Int) =>
 match g with
 | (s2, t5, t6) =>
 (bif (decide (t6 < t5)) then
 (Option.bind (idx s2 t6) fun c =>
 (Option.bind (jaw N (c.toNat : Int)) fun r =>
 (bif (!r) then
 (some false)
 else
 (if fits (t6 + 1) then (go (s2, t5, (t6 + 1))) else none))))
 else
 (Option.bind (jm N (s2.length : Int) 1 12) fun r2 =>
 (some r2)))) N (s, (s.length : Int), 0))
def jiG (N : Nat) : Model := ⟨⟨[.pv .str], []⟩, ⟨[.pv .bool], []⟩, fun a => jO N a⟩
theorem jcM (N : Nat) : ModelOk Tryz.prog 96 (jiG N) :=
 mO (fC (jeK N) (fC (jY N) ja)) Tryz.func96 rfl N (.seq .no (.seq (.seq .no (.block (.loop jqW .no))) .no)) (jiG N)
def jmc : Sh := ⟨.pv (.sl .str) :: dz 4 (.pv (.sl .str) :: .pv (.int .i64) :: .pv (.int .i64) :: dz 21 []), []⟩
def jb2 (N : Nat) (list : List Z0) : Z13 :=
 (iter (fun go (g : (List Z0) × (List Z0) × Int × Int) =>
 match g with
 | (list2, t5, t6, t7) =>
 (bif (decide (t7 < t6)) then
 (Option.bind (idx t5 t7) fun e =>
 (Option.bind (jO N e) fun r =>
 (bif (!r) then
 (some false)
 else
 (bif (decide ((0 : Int) < t7)) then
 (if fits (t7 - 1) then (Option.bind (idx list2 (t7 - 1)) fun e2 =>
 (bif (!Op.bytesLess e2 e) then
 (some false)
 else
 (if fits (t7 + 1) then (go (list2, t5, t6, (t7 + 1))) else none))) else none)
 else
 (if fits (t7 + 1) then (go (list2, t5, t6, (t7 + 1))) else none)))))
 else
 (some true))) N (list, list, (list.length : Int), 0))
def jfb (N : Nat) : Model := ⟨⟨[.pv (.sl .str)], []⟩, ⟨[.pv .bool], []⟩, fun a => jb2 N a⟩
theorem jtw (N : Nat) : ModelOk Tryz.prog 95 (jfb N) :=
 mO (fC (jcM N) ja) Tryz.func95 rfl N (.seq .no (.seq (.seq .no (.block (.loop jmc .no))) .no)) (jfb N)
def jdF (N : Nat) (s : List UInt8) (suffix : List UInt8) : Z13 :=
 (bif (decide ((suffix.length : Int) ≤ (s.length : Int))) then
 (if fits ((s.length : Int) - (suffix.length : Int)) then (Option.bind (cut s ((s.length : Int) - (suffix.length : Int)) (s.length : Int)) fun y =>
 (some (decide (y = suffix)))) else none)
 else
 (some false))
def jg5 (N : Nat) : Model := ⟨⟨[.pv .str, .pv .str], []⟩, ⟨[.pv .bool], []⟩, fun a => jdF N a.1 a.2⟩
theorem jpU (N : Nat) : ModelOk Tryz.prog 193 (jg5 N) :=
 mO ja Tryz.func193 rfl N .no (jg5 N)
def jcN (N : Nat) (s : List UInt8) (suffix : List UInt8) : Z13 :=
 (Option.bind (jdF N s suffix) fun r =>
 (some r))
def jgH (N : Nat) : Model := ⟨⟨[.pv .str, .pv .str], []⟩, ⟨[.pv .bool], []⟩, fun a => jcN N a.1 a.2⟩
theorem jsu (N : Nat) : ModelOk Tryz.prog 154 (jgH N) :=
 mO (fC (jpU N) ja) Tryz.func154 rfl N .no (jgH N)
def jod : Sh := ⟨.pv .str :: .dead :: .dead :: .pv .bool :: dz 32 [], []⟩
def jnf : Sh := ⟨.pv .str :: .dead :: .dead :: .pv .bool :: dz 6 (.own 600010 .str 9 true :: .pv (.int .i64) :: .pv (.int .i64) :: dz 23 []), []⟩
def jaB (N : Nat) (s : List UInt8) : Option (Z0) :=
 (Option.bind (jO N s) fun r =>
 (bif (!r) then
 (some ([] : List UInt8))
 else
 (iter (fun go (g : Z0 × Bool) =>
 match g with
 | (s2, again) =>
 (bif again then
 (iter (fun go2 (g : Z0 × Bool × (List Z0) × Int × Int) =>
 match g with
 | (s3, again2, t10, t11, t12) =>
 (bif (decide (t12 < t11)) then
 (Option.bind (idx t10 t12) fun e =>
 (Option.bind (jcN N s3 e) fun r2 =>
 (bif r2 then
 (if fits ((s3.length : Int) - (e.length : Int)) then (bif (decide ((3 : Int) ≤ ((s3.length : Int) - (e.length : Int)))) then
 (if fits ((s3.length : Int) - (e.length : Int)) then (Option.bind (cut s3 0 ((s3.length : Int) - (e.length : Int))) fun y =>
 (go (y, true))) else none)
 else
 (if fits (t12 + 1) then (go2 (s3, again2, t10, t11, (t12 + 1))) else none)) else none)
 else
 (if fits (t12 + 1) then (go2 (s3, again2, t10, t11, (t12 + 1))) else none))))
 else
 (go (s3, again2)))) N (s2, false, ([([105, 110, 103] : List UInt8), ([101, 100] : List UInt8), ([101, 115] : List UInt8), ([108, 121] : List UInt8), ([115] : List UInt8)] : List Z0), (([([105, 110, 103] : List UInt8), ([101, 100] : List UInt8), ([101, 115] : List UInt8), ([108, 121] : List UInt8), ([115] : List UInt8)] : List Z0).length : Int), 0))
 else
 (some s2))) N (s, true))))
def jjp (N : Nat) : Model := ⟨⟨[.pv .str], []⟩, ⟨[.pv .str], []⟩, fun a => jaB N a⟩
theorem jio (N : Nat) : ModelOk Tryz.prog 97 (jjp N) :=
 mO (fC (jcM N) (fC (jsu N) ja)) Tryz.func97 rfl N (.seq .no (.seq .no (.seq (.seq .no (.block (.loop jod (.seq .no (.block (.seq .no (.seq .no (.block (.loop jnf .no))))))))) .no))) (jjp N)
def jkJ : Sh := ⟨.pv (.sl .str) :: .pv .str :: dz 5 (.pv (.int .i64) :: .pv (.int .i64) :: dz 10 []), []⟩
def jdH (N : Nat) (s : List Z0) (v : List UInt8) : Z20 :=
 (iter (fun go (g : (List Z0) × Z0 × Int × Int) =>
 match g with
 | (s2, v2, t7, t8) =>
 (bif (decide (t8 < t7)) then
 (Option.bind (idx s2 t8) fun e =>
 (bif (decide (v2 = e)) then
 (some t8)
 else
 (if fits (t8 + 1) then (go (s2, v2, t7, (t8 + 1))) else none)))
 else
 (some (-1)))) N (s, v, (s.length : Int), 0))
def jgk (N : Nat) : Model := ⟨⟨[.pv (.sl .str), .pv .str], []⟩, ⟨[.pv (.int .i64)], []⟩, fun a => jdH N a.1 a.2⟩
theorem jkZ (N : Nat) : ModelOk Tryz.prog 155 (jgk N) :=
 mO ja Tryz.func155 rfl N (.seq .no (.seq (.seq .no (.block (.loop jkJ .no))) .no)) (jgk N)
def jao (N : Nat) (s : List Z0) (v : List UInt8) : Z13 :=
 (Option.bind (jdH N s v) fun r =>
 (some (decide ((0 : Int) ≤ r))))
def jhJ (N : Nat) : Model := ⟨⟨[.pv (.sl .str), .pv .str], []⟩, ⟨[.pv .bool], []⟩, fun a => jao N a.1 a.2⟩
theorem jh5 (N : Nat) : ModelOk Tryz.prog 98 (jhJ N) :=
 mO (fC (jkZ N) ja) Tryz.func98 rfl N .no (jhJ N)
def jmj : Sh := ⟨.dead :: .box 1 0 :: dz 22 (.pv Y14 :: .pv (.int .i64) :: .pv (.int .i64) :: dz 46 []), [(1, false, [.pv (.sl .str), .pv Y14])]⟩
def jrC : Sh := ⟨.dead :: .box 1 0 :: dz 22 (.pv Y14 :: .pv (.int .i64) :: .pv (.int .i64) :: dz 12 (.pv .bool :: dz 7 (.pv .bool :: .dead :: .dead :: .pv (.sl .str) :: .pv (.int .i64) :: .pv (.int .i64) :: dz 20 []))), [(1, false, [.pv (.sl .str), .pv Y14])]⟩
def jaj (N : Nat) (c : List Z0) (c2 : List Z6) : Z13 :=
 (bif (decide ((6 : Int) < (c.length : Int))) then
 (some false)
 else
 (Option.bind (jb2 N c) fun r =>
 (bif (!r) then
 (some false)
 else
 (bif (decide ((4 : Int) < (c2.length : Int))) then
 (some false)
 else
 (iter (fun go (g : (List Z6) × Int × Int × (List Z0) × (List Z6)) =>
 match g with
 | (t24, t25, t26, c3, c4) =>
 (bif (decide (t26 < t25)) then
 (Option.bind (idx t24 t26) fun e =>
 (Option.bind (jm N (e.1.length : Int) 1 3) fun r2 =>
 (bif (!r2) then
 (some false)
 else
 (Option.bind (jO N e.2) fun r3 =>
 (bif (!r3) then
 (some false)
 else
 (Option.bind (jaB N e.2) fun r4 =>
 (bif (!decide (r4 = e.2)) then
 (some false)
 else
 (iter (fun go2 (g : (List Z6) × Int × Int × Bool × Bool × (List Z0) × Int × Int × (List Z0) × (List Z6)) =>
 match g with
 | (t242, t252, t262, t39, t47, t50, t51, t52, c5, c6) =>
 (bif (decide (t52 < t51)) then
 (Option.bind (idx t50 t52) fun e2 =>
 (Option.bind (jO N e2) fun r5 =>
 (bif (!r5) then
 (some false)
 else
 (Option.bind (jaB N e2) fun r6 =>
 (bif (!decide (r6 = e2)) then
 (some false)
 else
 (Option.bind (jao N c5 e2) fun r7 =>
 (bif r7 then
 (some false)
 else
 (if fits (t52 + 1) then (go2 (t242, t252, t262, t39, t47, t50, t51, (t52 + 1), c5, c6)) else none))))))))
 else
 (if fits (t262 + 1) then (go (t242, t252, (t262 + 1), c5, c6)) else none))) N (t24, t25, t26, (!r3), (!decide (r4 = e.2)), e.1, (e.1.length : Int), 0, c3, c4)))))))))
 else
 (some true))) N (c2, (c2.length : Int), 0, c, c2))))))
def jji (N : Nat) : Model := ⟨⟨[.agg [.pv (.sl .str), .pv Y14]], []⟩, ⟨[.pv .bool], []⟩, fun a => jaj N a.1 a.2⟩
theorem jdX (N : Nat) : ModelOk Tryz.prog 50 (jji N) :=
 mO (fC (jtw N) (fC (jY N) (fC (jcM N) (fC (jio N) (fC (jh5 N) ja))))) Tryz.func50 rfl N (.seq .no (.seq .no (.seq (.seq .no (.block (.loop jmj (.seq .no (.seq .no (.seq (.block (.seq .no (.seq .no (.seq .no (.block (.loop jrC .no)))))) .no)))))) .no))) (jji N)
def jtd : Sh := ⟨.pv .str :: dz 4 (.pv (.int .i64) :: .pv (.int .i64) :: dz 16 []), []⟩
def jaF (N : Nat) (s : List UInt8) : Z13 :=
 (iter (fun go (g : Z0 × Int × Int) =>
 match g with
 | (s2, t5, t6) =>
 (bif (decide (t6 < t5)) then
 (Option.bind (idx s2 t6) fun c =>
 (bif (decide ((c.toNat : Int) < 32)) then
 (some false)
 else
 (Option.bind (idx s2 t6) fun c2 =>
 (bif (decide ((126 : Int) < (c2.toNat : Int))) then
 (some false)
 else
 (if fits (t6 + 1) then (go (s2, t5, (t6 + 1))) else none)))))
 else
 (some (decide ((s2.length : Int) ≤ 160))))) N (s, (s.length : Int), 0))
def jhu (N : Nat) : Model := ⟨⟨[.pv .str], []⟩, ⟨[.pv .bool], []⟩, fun a => jaF N a⟩
theorem jdK (N : Nat) : ModelOk Tryz.prog 156 (jhu N) :=
 mO ja Tryz.func156 rfl N (.seq .no (.seq (.seq .no (.block (.loop jtd .no))) .no)) (jhu N)
def jlC : Sh := ⟨.dead :: .box 1 0 :: dz 22 (.pv Y16 :: .pv (.int .i64) :: .pv (.int .i64) :: dz 66 []), [(1, false, [.pv (.int .i64), .pv Y16, .pv Y13])]⟩
def jpt : Sh := ⟨.dead :: .box 1 0 :: dz 57 (.pv Y13 :: .pv (.int .i64) :: .pv (.int .i64) :: dz 31 []), [(1, false, [.pv (.int .i64), .pv Y16, .pv Y13])]⟩
def jbx (N : Nat) (d : Int) (d2 : Z18) (d3 : Z8) : Z13 :=
 (Option.bind (jm N d 1 9999) fun r =>
 (bif (!r) then
 (some false)
 else
 (bif (decide ((3 : Int) < (d2.length : Int))) then
 (some false)
 else
 (bif (decide ((3 : Int) < (d3.length : Int))) then
 (some false)
 else
 (iter (fun go (g : Z19 × Int × Int × Int × Z19 × Z11) =>
 match g with
 | (t24, t25, t26, d4, d5, d6) =>
 (bif (decide (t26 < t25)) then
 (Option.bind (idx t24 t26) fun e =>
 (Option.bind (jO N e.1) fun r2 =>
 (bif (!r2) then
 (some false)
 else
 (Option.bind (jaF N e.2) fun r3 =>
 (bif (!r3) then
 (some false)
 else
 (bif (decide ((0 : Int) < t26)) then
 (if fits (t26 - 1) then (Option.bind (idx d5 (t26 - 1)) fun e2 =>
 (bif (!Op.bytesLess e2.1 e.1) then
 (some false)
 else
 (if fits (t26 + 1) then (go (t24, t25, (t26 + 1), d4, d5, d6)) else none))) else none)
 else
 (if fits (t26 + 1) then (go (t24, t25, (t26 + 1), d4, d5, d6)) else none)))))))
 else
 (iter (fun go2 (g : Z11 × Int × Int × Int × Z19 × Z11) =>
 match g with
 | (t59, t60, t61, d7, d8, d9) =>
 (bif (decide (t61 < t60)) then
 (Option.bind (idx t59 t61) fun e3 =>
 (Option.bind (jO N e3.1) fun r4 =>
 (bif (!r4) then
 (some false)
 else
 (Option.bind (jm N e3.2 0 999999999) fun r5 =>
 (bif (!r5) then
 (some false)
 else
 (bif (decide ((0 : Int) < t61)) then
 (if fits (t61 - 1) then (Option.bind (idx d9 (t61 - 1)) fun e4 =>
 (bif (!Op.bytesLess e4.1 e3.1) then
 (some false)
 else
 (if fits (t61 + 1) then (go2 (t59, t60, (t61 + 1), d7, d8, d9)) else none))) else none)
 else
 (if fits (t61 + 1) then (go2 (t59, t60, (t61 + 1), d7, d8, d9)) else none)))))))
 else
 (some true))) N (d6, (d6.length : Int), 0, d4, d5, d6)))) N (d2, (d2.length : Int), 0, d, d2, d3))))))
def jeT (N : Nat) : Model := ⟨⟨[.agg [.pv (.int .i64), .pv Y16, .pv Y13]], []⟩, ⟨[.pv .bool], []⟩, fun a => jbx N a.1 a.2.1 a.2.2⟩
theorem jh0 (N : Nat) : ModelOk Tryz.prog 99 (jeT N) :=
 mO (fC (jY N) (fC (jcM N) (fC (jdK N) ja))) Tryz.func99 rfl N (.seq .no (.seq .no (.seq (.seq .no (.block (.loop jlC .no))) (.seq (.seq .no (.block (.loop jpt .no))) .no)))) (jeT N)
def jpj : Sh := ⟨.pv Y3 :: dz 4 (.pv Y3 :: .pv (.int .i64) :: .pv (.int .i64) :: dz 26 []), []⟩
def jbf (N : Nat) (list : List Z3) : Z13 :=
 (iter (fun go (g : (List Z3) × (List Z3) × Int × Int) =>
 match g with
 | (list2, t5, t6, t7) =>
 (bif (decide (t7 < t6)) then
 (Option.bind (idx t5 t7) fun e =>
 (Option.bind (jbx N e.1 e.2.1 e.2.2) fun r =>
 (bif (!r) then
 (some false)
 else
 (bif (decide ((0 : Int) < t7)) then
 (if fits (t7 - 1) then (Option.bind (idx list2 (t7 - 1)) fun e2 =>
 (bif (decide (e.1 ≤ e2.1)) then
 (some false)
 else
 (if fits (t7 + 1) then (go (list2, t5, t6, (t7 + 1))) else none))) else none)
 else
 (if fits (t7 + 1) then (go (list2, t5, t6, (t7 + 1))) else none)))))
 else
 (some (decide ((list2.length : Int) ≤ 16))))) N (list, list, (list.length : Int), 0))
def jhK (N : Nat) : Model := ⟨⟨[.pv Y3], []⟩, ⟨[.pv .bool], []⟩, fun a => jbf N a⟩
theorem jjU (N : Nat) : ModelOk Tryz.prog 51 (jhK N) :=
 mO (fC (jh0 N) ja) Tryz.func51 rfl N (.seq .no (.seq (.seq .no (.block (.loop jpj .no))) .no)) (jhK N)
def jbO (N : Nat) (d : Int) (d2 : Z18) (d3 : Z8) : Option Z3 :=
 (if room ([] : Z18).length d2.length 32 then
 (if room ([] : Z8).length d3.length 24 then
 (some (d, (([] : Z18) ++ d2), (([] : Z8) ++ d3)))
 else none)
 else none)
def jf5 (N : Nat) : Model := ⟨⟨[.agg [.pv (.int .i64), .pv Y16, .pv Y13]], []⟩, ⟨[.agg [.pv (.int .i64), .own 1 Y18 142 true, .own 2 Y15 209 true]], []⟩, fun a => jbO N a.1 a.2.1 a.2.2⟩
theorem jrI (N : Nat) : ModelOk Tryz.prog 157 (jf5 N) :=
 mO ja Tryz.func157 rfl N .no (jf5 N)
def joW : Sh := ⟨dz 3 (.own 600003 Y4 46 true :: dz 3 (.pv Y3 :: .pv (.int .i64) :: .pv (.int .i64) :: dz 10 [])), []⟩
def jbV (N : Nat) (list : List Z3) : Option ((List Z3)) :=
 (iter (fun go (g : (List Z3) × (List Z3) × Int × Int) =>
 match g with
 | (out, t7, t8, t9) =>
 (bif (decide (t9 < t8)) then
 (Option.bind (idx t7 t9) fun e =>
 (Option.bind (jbO N e.1 e.2.1 e.2.2) fun r =>
 (if room out.length ([r] : List Z3).length 56 then
 (if fits (t9 + 1) then (go ((out ++ ([r] : List Z3)), t7, t8, (t9 + 1))) else none)
 else none)))
 else
 (some out))) N (([] : List Z3), list, (list.length : Int), 0))
def jfM (N : Nat) : Model := ⟨⟨[.pv Y3], []⟩, ⟨[.own 1 Y4 46 true], []⟩, fun a => jbV N a⟩
theorem joC (N : Nat) : ModelOk Tryz.prog 100 (jfM N) :=
 mO (fC (jrI N) ja) Tryz.func100 rfl N (.seq .no (.seq .no (.seq (.seq .no (.block (.loop joW .no))) .no))) (jfM N)
def jI (N : Nat) (b : Int) : Z20 :=
 (bif (decide ((65 : Int) ≤ b)) then
 (bif (decide (b ≤ 90)) then
 (some (IntKind.u8.wrap ((IntKind.u8.wrap (b + 97)) - 65)))
 else
 (some b))
 else
 (some b))
def jfQ (N : Nat) : Model := ⟨⟨[.pv (.int .u8)], []⟩, ⟨[.pv (.int .u8)], []⟩, fun a => jI N a⟩
theorem jmu (N : Nat) : ModelOk Tryz.prog 194 (jfQ N) :=
 mO ja Tryz.func194 rfl N .no (jfQ N)
def jpB : Sh := ⟨.pv .str :: .dead :: .dead :: .own 600003 Y7 213 true :: .pv (.int .i64) :: dz 57 [], []⟩
def jo6 : Sh := ⟨.pv .str :: .dead :: .dead :: .own 600003 Y7 213 true :: .pv (.int .i64) :: .box 5 0 :: .own 600006 (.int .u8) 5 true :: dz 55 [], [(5, false, [.pv .str, .pv (.int .i64), .pv (.int .i64), .pv (.int .i64)])]⟩
def jct (N : Nat) (s : List UInt8) : Option ((List Z9)) :=
 (Option.bind (jaF N s) fun r =>
 (bif (!r) then
 (some ([] : List Z9))
 else
 (iter (fun go (g : Z0 × (List Z9) × Int) =>
 match g with
 | (s2, out, at0) =>
 (bif (decide (at0 < (s2.length : Int))) then
 (Option.bind (idx s2 at0) fun c =>
 (Option.bind (jI N (c.toNat : Int)) fun r2 =>
 (Option.bind (jaw N r2) fun r3 =>
 (bif (!r3) then
 (if fits (at0 + 1) then (go (s2, out, (at0 + 1))) else none)
 else
 (iter (fun go2 (g : Z0 × (List Z9) × Int × (List Int) × Z0 × Int × Int × Int) =>
 match g with
 | (s3, out2, at02, text, w, w2, w3, w4) =>
 (bif (decide (at02 < (s3.length : Int))) then
 (Option.bind (idx s3 at02) fun c2 =>
 (Option.bind (jI N (c2.toNat : Int)) fun r4 =>
 (Option.bind (jaw N r4) fun r5 =>
 (bif r5 then
 (bif (decide ((text.length : Int) < 12)) then
 (Option.bind (idx s3 at02) fun c3 =>
 (Option.bind (jI N (c3.toNat : Int)) fun r6 =>
 (if room text.length ([r6] : List Int).length 1 then
 (if fits (at02 + 1) then (go2 (s3, out2, (at02 + 1), (text ++ ([r6] : List Int)), w, w2, w3, w4)) else none)
 else none)))
 else
 (if fits (at02 + 1) then (go2 (s3, out2, (at02 + 1), text, w, w2, w3, w4)) else none))
 else
 (if room out2.length ([((bytesOf text), w2, w3, at02)] : List Z9).length 40 then
 (go (s3, (out2 ++ ([((bytesOf text), w2, w3, at02)] : List Z9)), at02))
 else none)))))
 else
 (if room out2.length ([((bytesOf text), w2, w3, at02)] : List Z9).length 40 then
 (go (s3, (out2 ++ ([((bytesOf text), w2, w3, at02)] : List Z9)), at02))
 else none))) N (s2, out, at0, ([] : List Int), ([] : List UInt8), (out.length : Int), at0, 0))))))
 else
 (some out))) N (s, ([] : List Z9), 0))))
def jgy (N : Nat) : Model := ⟨⟨[.pv .str], []⟩, ⟨[.own 1 Y7 213 true], []⟩, fun a => jct N a⟩
theorem jqc (N : Nat) : ModelOk Tryz.prog 158 (jgy N) :=
 mO (fC (jdK N) (fC (jmu N) (fC (jeK N) ja))) Tryz.func158 rfl N (.seq .no (.seq .no (.seq .no (.seq (.seq .no (.block (.loop jpB (.seq .no (.block (.seq .no (.seq .no (.seq .no (.seq (.block (.loop jo6 .no)) .no))))))))) .no)))) (jgy N)
def jty : Sh := ⟨.dead :: .pv Y13 :: .pv (.int .i64) :: .box 3 0 :: dz 3 (.pv (.opt Y17) :: dz 8 (.pv (.int .i64) :: .pv (.int .i64) :: dz 73 [])), [(3, false, [.pv (.sl .str), .pv Y14])]⟩
def jss : Sh := ⟨.dead :: .pv Y13 :: .pv (.int .i64) :: .box 3 0 :: dz 3 (.pv (.opt Y17) :: .dead :: .ptr Y17 :: .pv .bool :: dz 5 (.pv (.int .i64) :: .pv (.int .i64) :: dz 31 (.pv .bool :: dz 4 (.pv (.sl .str) :: .pv (.int .i64) :: .pv (.int .i64) :: dz 34 [])))), [(3, false, [.pv (.sl .str), .pv Y14])]⟩
def jbH (N : Nat) (c : List Z0) (c2 : List Z6) (terms : Z8) (at0 : Int) : Option ((Option Z6)) :=
 (iter (fun go (g : Z11 × Int × (Option Z6) × Int × Int × (List Z0) × (List Z6)) =>
 match g with
 | (terms2, at02, best, t16, t17, c3, c4) =>
 (bif (decide (t17 < t16)) then
 (Option.bind (idx c4 t17) fun e =>
 (if fits ((terms2.length : Int) - at02) then (bif (decide (((terms2.length : Int) - at02) < (e.1.length : Int))) then
 (if fits (t17 + 1) then (go (terms2, at02, best, t16, (t17 + 1), c3, c4)) else none)
 else
 (bif (!(Option.isNone best)) then
 (Option.bind best fun p =>
 (bif (decide ((e.1.length : Int) ≤ (p.1.length : Int))) then
 (if fits (t17 + 1) then (go (terms2, at02, best, t16, (t17 + 1), c3, c4)) else none)
 else
 (iter (fun go2 (g : Z23) =>
 match g with
 | (terms3, at03, best2, r, fits0, t162, t172, t49, t54, t55, t56, c5, c6) =>
 (bif (decide (t56 < t55)) then
 (Option.bind (idx t54 t56) fun e2 =>
 (if fits (at03 + t56) then (Option.bind (idx terms3 (at03 + t56)) fun e3 =>
 (bif fits0 then
 (bif (decide (e3.1 = e2)) then
 (Option.bind (idx terms3 at03) fun e4 =>
 (if fits (e4.2 + t56) then (if fits (t56 + 1) then (go2 (terms3, at03, best2, r, (decide (e3.2 = (e4.2 + t56))), t162, t172, t49, t54, t55, (t56 + 1), c5, c6)) else none) else none))
 else
 (if fits (t56 + 1) then (go2 (terms3, at03, best2, r, false, t162, t172, t49, t54, t55, (t56 + 1), c5, c6)) else none))
 else
 (if fits (t56 + 1) then (go2 (terms3, at03, best2, r, false, t162, t172, t49, t54, t55, (t56 + 1), c5, c6)) else none))) else none))
 else
 (bif fits0 then
 (if fits (t172 + 1) then (go (terms3, at03, (some r), t162, (t172 + 1), c5, c6)) else none)
 else
 (if fits (t172 + 1) then (go (terms3, at03, best2, t162, (t172 + 1), c5, c6)) else none)))) N (terms2, at02, best, e, true, t16, t17, (decide ((e.1.length : Int) ≤ (p.1.length : Int))), e.1, (e.1.length : Int), 0, c3, c4))))
 else
 (iter (fun go3 (g : Z23) =>
 match g with
 | (terms4, at04, best3, r2, fits02, t163, t173, t492, t542, t552, t562, c7, c8) =>
 (bif (decide (t562 < t552)) then
 (Option.bind (idx t542 t562) fun e5 =>
 (if fits (at04 + t562) then (Option.bind (idx terms4 (at04 + t562)) fun e6 =>
 (bif fits02 then
 (bif (decide (e6.1 = e5)) then
 (Option.bind (idx terms4 at04) fun e7 =>
 (if fits (e7.2 + t562) then (if fits (t562 + 1) then (go3 (terms4, at04, best3, r2, (decide (e6.2 = (e7.2 + t562))), t163, t173, t492, t542, t552, (t562 + 1), c7, c8)) else none) else none))
 else
 (if fits (t562 + 1) then (go3 (terms4, at04, best3, r2, false, t163, t173, t492, t542, t552, (t562 + 1), c7, c8)) else none))
 else
 (if fits (t562 + 1) then (go3 (terms4, at04, best3, r2, false, t163, t173, t492, t542, t552, (t562 + 1), c7, c8)) else none))) else none))
 else
 (bif fits02 then
 (if fits (t173 + 1) then (go (terms4, at04, (some r2), t163, (t173 + 1), c7, c8)) else none)
 else
 (if fits (t173 + 1) then (go (terms4, at04, best3, t163, (t173 + 1), c7, c8)) else none)))) N (terms2, at02, best, e, true, t16, t17, false, e.1, (e.1.length : Int), 0, c3, c4)))) else none))
 else
 (some best))) N (terms, at0, (none : Option Z6), (c2.length : Int), 0, c, c2))
def jhR (N : Nat) : Model := ⟨⟨[.agg [.pv (.sl .str), .pv Y14], .pv Y13, .pv (.int .i64)], []⟩, ⟨[.pv (.opt Y17)], []⟩, fun a => jbH N a.1 a.2.1 a.2.2.1 a.2.2.2⟩
theorem jtv (N : Nat) : ModelOk Tryz.prog 159 (jhR N) :=
 mO ja Tryz.func159 rfl N (.seq .no (.seq .no (.seq (.seq .no (.block (.loop jty (.seq .no (.seq .no (.seq (.block (.seq .no (.seq .no (.seq .no (.seq .no (.seq (.seq .no (.block (.loop jss .no))) .no)))))) .no)))))) .no))) (jhR N)
def jlW : Sh := ⟨.dead :: .dead :: .box 2 0 :: .dead :: .dead :: .own 600005 Y15 146 true :: .own 600006 Y15 146 true :: dz 17 (.own 600024 Y7 213 true :: .pv (.int .i64) :: .pv (.int .i64) :: dz 67 []), [(2, false, [.pv (.sl .str), .pv Y14])]⟩
def jnt : Sh := ⟨.dead :: .dead :: .box 2 0 :: .dead :: .dead :: .own 600005 Y15 146 true :: .own 600006 Y15 146 true :: dz 3 (.pv (.int .i64) :: dz 83 []), [(2, false, [.pv (.sl .str), .pv Y14])]⟩
def jbw (N : Nat) (c : List Z0) (c2 : List Z6) (s : List UInt8) : Option (Z11) :=
 (Option.bind (jaj N c c2) fun r =>
 (bif (!r) then
 (some ([] : Z8))
 else
 (Option.bind (jaF N s) fun r2 =>
 (bif (!r2) then
 (some ([] : Z8))
 else
 (Option.bind (jct N s) fun r3 =>
 (iter (fun go (g : Z11 × Z11 × (List Z9) × Int × Int × (List Z0) × (List Z6)) =>
 match g with
 | (out, terms, t24, t25, t26, c3, c4) =>
 (bif (decide (t26 < t25)) then
 (Option.bind (idx t24 t26) fun e =>
 (Option.bind (jaB N e.1) fun r4 =>
 (Option.bind (jao N c3 e.1) fun r5 =>
 (bif (!r5) then
 (Option.bind (jao N c3 r4) fun r6 =>
 (bif (!r6) then
 (if room terms.length ([(r4, e.2.1)] : Z8).length 24 then
 (if fits (t26 + 1) then (go (out, (terms ++ ([(r4, e.2.1)] : Z8)), t24, t25, (t26 + 1), c3, c4)) else none)
 else none)
 else
 (if fits (t26 + 1) then (go (out, terms, t24, t25, (t26 + 1), c3, c4)) else none)))
 else
 (if fits (t26 + 1) then (go (out, terms, t24, t25, (t26 + 1), c3, c4)) else none)))))
 else
 (iter (fun go2 (g : Z11 × Z11 × Int × (List Z0) × (List Z6)) =>
 match g with
 | (out2, terms2, at0, c5, c6) =>
 (bif (decide (at0 < (terms2.length : Int))) then
 (Option.bind (jbH N c5 c6 terms2 at0) fun r7 =>
 (bif (Option.isNone r7) then
 (Option.bind (idx terms2 at0) fun e2 =>
 (if room out2.length ([e2] : Z8).length 24 then
 (if fits (at0 + 1) then (go2 ((out2 ++ ([e2] : Z8)), terms2, (at0 + 1), c5, c6)) else none)
 else none))
 else
 (Option.bind r7 fun p =>
 (Option.bind (idx terms2 at0) fun e3 =>
 (if room out2.length ([(p.2, e3.2)] : Z8).length 24 then
 (Option.bind r7 fun p2 =>
 (if fits (at0 + (p2.1.length : Int)) then (go2 ((out2 ++ ([(p.2, e3.2)] : Z8)), terms2, (at0 + (p2.1.length : Int)), c5, c6)) else none))
 else none)))))
 else
 (some out2))) N (out, terms, 0, c3, c4)))) N (([] : Z8), ([] : Z8), r3, (r3.length : Int), 0, c, c2)))))))
def jhx (N : Nat) : Model := ⟨⟨[.agg [.pv (.sl .str), .pv Y14], .pv .str], []⟩, ⟨[.own 1 Y15 146 true], []⟩, fun a => jbw N a.1 a.2.1 a.2.2⟩
theorem jgO (N : Nat) : ModelOk Tryz.prog 101 (jhx N) :=
 mO (fC (jdX N) (fC (jdK N) (fC (jqc N) (fC (jio N) (fC (jh5 N) (fC (jtv N) ja)))))) Tryz.func101 rfl N (.seq .no (.seq .no (.seq .no (.seq .no (.seq (.seq .no (.block (.loop jlW .no))) (.seq (.seq .no (.block (.loop jnt .no))) .no)))))) (jhx N)
def jbF (N : Nat) (e : List UInt8) (e2 : List UInt8) (e3 : Z5) (t1 : List UInt8) (t2 : Z0 × Int) : Z13 :=
 (bif (decide (e = t1)) then
 (some (decide (e2 = t2.1)))
 else
 (some false))
def jj7 (N : Nat) : Model := ⟨⟨[.agg [.pv .str, .pv .str, .pv Y11], .ptr .str, .ptr Y15], []⟩, ⟨[.pv .bool], []⟩, fun a => jbF N a.1 a.2.1 a.2.2.1 a.2.2.2.1 a.2.2.2.2⟩
theorem jmw (N : Nat) : ModelOk Tryz.prog 161 (jj7 N) :=
 mO ja Tryz.func161 rfl N .no (jj7 N)
def jnc : Sh := ⟨.pv Y5 :: .clo 161 [.ptr .str, .ptr Y15] :: dz 5 (.pv (.int .i64) :: .pv (.int .i64) :: dz 10 []), []⟩
def jaQ (N : Nat) (s : List Z2) (f : Z0 × Z0 × Int) : Z20 :=
 (iter (fun go (g : (List Z2) × (Z0 × Z0 × Int) × Int × Int) =>
 match g with
 | (s2, f2, t7, t8) =>
 (bif (decide (t8 < t7)) then
 (Option.bind (idx s2 t8) fun e =>
 (Option.bind (jbF N e.1 e.2.1 e.2.2 f2.1 f2.2) fun r =>
 (bif r then
 (some t8)
 else
 (if fits (t8 + 1) then (go (s2, f2, t7, (t8 + 1))) else none))))
 else
 (some (-1)))) N (s, f, (s.length : Int), 0))
def jgB (N : Nat) : Model := ⟨⟨[.pv Y5, .clo 161 [.ptr .str, .ptr Y15]], []⟩, ⟨[.pv (.int .i64)], []⟩, fun a => jaQ N a.1 a.2⟩
theorem jrl (N : Nat) : ModelOk Tryz.prog 160 (jgB N) :=
 mO (fC (jmw N) ja) Tryz.func160 rfl N (.seq .no (.seq (.seq .no (.block (.loop jnc .no))) .no)) (jgB N)
def jbI (N : Nat) (field : List UInt8) (t : List UInt8) (t2 : Int) (id : Int) (b : List Z3) (b2 : List Z2) : Option ((List Z3) × (List Z2)) :=
 (Option.bind (jaQ N b2 (field, t, t2)) fun r =>
 (bif (decide (r < 0)) then
 (if room b2.length ([(field, t, ([] : Z5))] : List Z2).length 56 then
 (if 0 ≤ (b2.length : Int) ∧ (b2.length : Int) < ((b2 ++ ([(field, t, ([] : Z5))] : List Z2)).length : Int) then
 (Option.bind ((b2 ++ ([(field, t, ([] : Z5))] : List Z2))[(b2.length : Int).toNat]?) fun e =>
 (if fits ((e.2.2.length : Int) - 1) then (bif (decide (((e.2.2.length : Int) - 1) < 0)) then
 (Option.bind ((b2 ++ ([(field, t, ([] : Z5))] : List Z2))[(b2.length : Int).toNat]?) fun e2 =>
 (if (b2.length : Int).toNat = (b2.length : Int).toNat then
 (if room e.2.2.length ([(id, ([] : List Int))] : Z5).length 32 then
 (if (b2.length : Int).toNat = (b2.length : Int).toNat then
 (Option.bind ((b2 ++ ([(field, t, ([] : Z5))] : List Z2))[(b2.length : Int).toNat]?) fun e3 =>
 (if fits (((e.2.2.length : Int) - 1) + 1) then (Option.bind (((b2 ++ ([(field, t, ([] : Z5))] : List Z2)).set (b2.length : Int).toNat (e3.1, e3.2.1, (e.2.2 ++ ([(id, ([] : List Int))] : Z5))))[(b2.length : Int).toNat]?) fun e4 =>
 (Option.bind (e4.2.2[(((e.2.2.length : Int) - 1) + 1).toNat]?) fun e5 =>
 (Option.bind (((b2 ++ ([(field, t, ([] : Z5))] : List Z2)).set (b2.length : Int).toNat (e3.1, e3.2.1, (e.2.2 ++ ([(id, ([] : List Int))] : Z5))))[(b2.length : Int).toNat]?) fun e6 =>
 (if (b2.length : Int).toNat = (b2.length : Int).toNat then
 (Option.bind (((b2 ++ ([(field, t, ([] : Z5))] : List Z2)).set (b2.length : Int).toNat (e3.1, e3.2.1, (e.2.2 ++ ([(id, ([] : List Int))] : Z5))))[(b2.length : Int).toNat]?) fun e7 =>
 (if (b2.length : Int).toNat = (b2.length : Int).toNat then
 (if 0 ≤ (((e.2.2.length : Int) - 1) + 1) ∧ (((e.2.2.length : Int) - 1) + 1) < (e4.2.2.length : Int) then
 (Option.bind (e4.2.2[(((e.2.2.length : Int) - 1) + 1).toNat]?) fun e8 =>
 (if (((e.2.2.length : Int) - 1) + 1).toNat = (((e.2.2.length : Int) - 1) + 1).toNat then
 (if room e5.2.length ([t2] : List Int).length 8 then
 (if 0 ≤ (((e.2.2.length : Int) - 1) + 1) ∧ (((e.2.2.length : Int) - 1) + 1) < (e4.2.2.length : Int) then
 (if (((e.2.2.length : Int) - 1) + 1).toNat = (((e.2.2.length : Int) - 1) + 1).toNat then
 (Option.bind (e4.2.2[(((e.2.2.length : Int) - 1) + 1).toNat]?) fun e9 =>
 (some (b, (((b2 ++ ([(field, t, ([] : Z5))] : List Z2)).set (b2.length : Int).toNat (e3.1, e3.2.1, (e.2.2 ++ ([(id, ([] : List Int))] : Z5)))).modify ((b2.length : Int).toNat) fun y => (y.1, y.2.1, (e4.2.2.set (((e.2.2.length : Int) - 1) + 1).toNat (e9.1, (e5.2 ++ ([t2] : List Int)))))))))
 else none)
 else none)
 else none)
 else none))
 else none)
 else none))
 else none)))) else none))
 else none)
 else none)
 else none))
 else
 (Option.bind ((b2 ++ ([(field, t, ([] : Z5))] : List Z2))[(b2.length : Int).toNat]?) fun e10 =>
 (if (b2.length : Int).toNat = (b2.length : Int).toNat then
 (if 0 ≤ ((e.2.2.length : Int) - 1) ∧ ((e.2.2.length : Int) - 1) < (e.2.2.length : Int) then
 (Option.bind (e.2.2[((e.2.2.length : Int) - 1).toNat]?) fun e11 =>
 (bif (!decide (e11.1 = id)) then
 (Option.bind ((b2 ++ ([(field, t, ([] : Z5))] : List Z2))[(b2.length : Int).toNat]?) fun e12 =>
 (if (b2.length : Int).toNat = (b2.length : Int).toNat then
 (if room e.2.2.length ([(id, ([] : List Int))] : Z5).length 32 then
 (if (b2.length : Int).toNat = (b2.length : Int).toNat then
 (Option.bind ((b2 ++ ([(field, t, ([] : Z5))] : List Z2))[(b2.length : Int).toNat]?) fun e13 =>
 (if fits (((e.2.2.length : Int) - 1) + 1) then (Option.bind (((b2 ++ ([(field, t, ([] : Z5))] : List Z2)).set (b2.length : Int).toNat (e13.1, e13.2.1, (e.2.2 ++ ([(id, ([] : List Int))] : Z5))))[(b2.length : Int).toNat]?) fun e14 =>
 (Option.bind (e14.2.2[(((e.2.2.length : Int) - 1) + 1).toNat]?) fun e15 =>
 (Option.bind (((b2 ++ ([(field, t, ([] : Z5))] : List Z2)).set (b2.length : Int).toNat (e13.1, e13.2.1, (e.2.2 ++ ([(id, ([] : List Int))] : Z5))))[(b2.length : Int).toNat]?) fun e16 =>
 (if (b2.length : Int).toNat = (b2.length : Int).toNat then
 (Option.bind (((b2 ++ ([(field, t, ([] : Z5))] : List Z2)).set (b2.length : Int).toNat (e13.1, e13.2.1, (e.2.2 ++ ([(id, ([] : List Int))] : Z5))))[(b2.length : Int).toNat]?) fun e17 =>
 (if (b2.length : Int).toNat = (b2.length : Int).toNat then
 (if 0 ≤ (((e.2.2.length : Int) - 1) + 1) ∧ (((e.2.2.length : Int) - 1) + 1) < (e14.2.2.length : Int) then
 (Option.bind (e14.2.2[(((e.2.2.length : Int) - 1) + 1).toNat]?) fun e18 =>
 (if (((e.2.2.length : Int) - 1) + 1).toNat = (((e.2.2.length : Int) - 1) + 1).toNat then
 (if room e15.2.length ([t2] : List Int).length 8 then
 (if 0 ≤ (((e.2.2.length : Int) - 1) + 1) ∧ (((e.2.2.length : Int) - 1) + 1) < (e14.2.2.length : Int) then
 (if (((e.2.2.length : Int) - 1) + 1).toNat = (((e.2.2.length : Int) - 1) + 1).toNat then
 (Option.bind (e14.2.2[(((e.2.2.length : Int) - 1) + 1).toNat]?) fun e19 =>
 (some (b, (((b2 ++ ([(field, t, ([] : Z5))] : List Z2)).set (b2.length : Int).toNat (e13.1, e13.2.1, (e.2.2 ++ ([(id, ([] : List Int))] : Z5)))).modify ((b2.length : Int).toNat) fun y2 => (y2.1, y2.2.1, (e14.2.2.set (((e.2.2.length : Int) - 1) + 1).toNat (e19.1, (e15.2 ++ ([t2] : List Int)))))))))
 else none)
 else none)
 else none)
 else none))
 else none)
 else none))
 else none)))) else none))
 else none)
 else none)
 else none))
 else
 (if (b2.length : Int).toNat = (b2.length : Int).toNat then
 (Option.bind (e.2.2[((e.2.2.length : Int) - 1).toNat]?) fun e20 =>
 (Option.bind ((b2 ++ ([(field, t, ([] : Z5))] : List Z2))[(b2.length : Int).toNat]?) fun e21 =>
 (if (b2.length : Int).toNat = (b2.length : Int).toNat then
 (Option.bind ((b2 ++ ([(field, t, ([] : Z5))] : List Z2))[(b2.length : Int).toNat]?) fun e22 =>
 (if (b2.length : Int).toNat = (b2.length : Int).toNat then
 (if 0 ≤ ((e.2.2.length : Int) - 1) ∧ ((e.2.2.length : Int) - 1) < (e.2.2.length : Int) then
 (Option.bind (e.2.2[((e.2.2.length : Int) - 1).toNat]?) fun e23 =>
 (if ((e.2.2.length : Int) - 1).toNat = ((e.2.2.length : Int) - 1).toNat then
 (if room e20.2.length ([t2] : List Int).length 8 then
 (if 0 ≤ ((e.2.2.length : Int) - 1) ∧ ((e.2.2.length : Int) - 1) < (e.2.2.length : Int) then
 (if ((e.2.2.length : Int) - 1).toNat = ((e.2.2.length : Int) - 1).toNat then
 (Option.bind (e.2.2[((e.2.2.length : Int) - 1).toNat]?) fun e24 =>
 (some (b, ((b2 ++ ([(field, t, ([] : Z5))] : List Z2)).modify ((b2.length : Int).toNat) fun y3 => (y3.1, y3.2.1, (e.2.2.set ((e.2.2.length : Int) - 1).toNat (e24.1, (e20.2 ++ ([t2] : List Int)))))))))
 else none)
 else none)
 else none)
 else none))
 else none)
 else none))
 else none)))
 else none)))
 else none)
 else none))) else none))
 else none)
 else none)
 else
 (if 0 ≤ r ∧ r < (b2.length : Int) then
 (Option.bind (b2[r.toNat]?) fun e25 =>
 (if fits ((e25.2.2.length : Int) - 1) then (bif (decide (((e25.2.2.length : Int) - 1) < 0)) then
 (Option.bind (b2[r.toNat]?) fun e26 =>
 (if r.toNat = r.toNat then
 (if room e25.2.2.length ([(id, ([] : List Int))] : Z5).length 32 then
 (if r.toNat = r.toNat then
 (Option.bind (b2[r.toNat]?) fun e27 =>
 (if fits (((e25.2.2.length : Int) - 1) + 1) then (Option.bind ((b2.set r.toNat (e27.1, e27.2.1, (e25.2.2 ++ ([(id, ([] : List Int))] : Z5))))[r.toNat]?) fun e28 =>
 (Option.bind (e28.2.2[(((e25.2.2.length : Int) - 1) + 1).toNat]?) fun e29 =>
 (Option.bind ((b2.set r.toNat (e27.1, e27.2.1, (e25.2.2 ++ ([(id, ([] : List Int))] : Z5))))[r.toNat]?) fun e30 =>
 (if r.toNat = r.toNat then
 (Option.bind ((b2.set r.toNat (e27.1, e27.2.1, (e25.2.2 ++ ([(id, ([] : List Int))] : Z5))))[r.toNat]?) fun e31 =>
 (if r.toNat = r.toNat then
 (if 0 ≤ (((e25.2.2.length : Int) - 1) + 1) ∧ (((e25.2.2.length : Int) - 1) + 1) < (e28.2.2.length : Int) then
 (Option.bind (e28.2.2[(((e25.2.2.length : Int) - 1) + 1).toNat]?) fun e32 =>
 (if (((e25.2.2.length : Int) - 1) + 1).toNat = (((e25.2.2.length : Int) - 1) + 1).toNat then
 (if room e29.2.length ([t2] : List Int).length 8 then
 (if 0 ≤ (((e25.2.2.length : Int) - 1) + 1) ∧ (((e25.2.2.length : Int) - 1) + 1) < (e28.2.2.length : Int) then
 (if (((e25.2.2.length : Int) - 1) + 1).toNat = (((e25.2.2.length : Int) - 1) + 1).toNat then
 (Option.bind (e28.2.2[(((e25.2.2.length : Int) - 1) + 1).toNat]?) fun e33 =>
 (some (b, ((b2.set r.toNat (e27.1, e27.2.1, (e25.2.2 ++ ([(id, ([] : List Int))] : Z5)))).modify r.toNat fun y4 => (y4.1, y4.2.1, (e28.2.2.set (((e25.2.2.length : Int) - 1) + 1).toNat (e33.1, (e29.2 ++ ([t2] : List Int)))))))))
 else none)
 else none)
 else none)
 else none))
 else none)
 else none))
 else none)))) else none))
 else none)
 else none)
 else none))
 else
 (Option.bind (b2[r.toNat]?) fun e34 =>
 (if r.toNat = r.toNat then
 (if 0 ≤ ((e25.2.2.length : Int) - 1) ∧ ((e25.2.2.length : Int) - 1) < (e25.2.2.length : Int) then
 (Option.bind (e25.2.2[((e25.2.2.length : Int) - 1).toNat]?) fun e35 =>
 (bif (!decide (e35.1 = id)) then
 (Option.bind (b2[r.toNat]?) fun e36 =>
 (if r.toNat = r.toNat then
 (if room e25.2.2.length ([(id, ([] : List Int))] : Z5).length 32 then
 (if r.toNat = r.toNat then
 (Option.bind (b2[r.toNat]?) fun e37 =>
 (if fits (((e25.2.2.length : Int) - 1) + 1) then (Option.bind ((b2.set r.toNat (e37.1, e37.2.1, (e25.2.2 ++ ([(id, ([] : List Int))] : Z5))))[r.toNat]?) fun e38 =>
 (Option.bind (e38.2.2[(((e25.2.2.length : Int) - 1) + 1).toNat]?) fun e39 =>
 (Option.bind ((b2.set r.toNat (e37.1, e37.2.1, (e25.2.2 ++ ([(id, ([] : List Int))] : Z5))))[r.toNat]?) fun e40 =>
 (if r.toNat = r.toNat then
 (Option.bind ((b2.set r.toNat (e37.1, e37.2.1, (e25.2.2 ++ ([(id, ([] : List Int))] : Z5))))[r.toNat]?) fun e41 =>
 (if r.toNat = r.toNat then
 (if 0 ≤ (((e25.2.2.length : Int) - 1) + 1) ∧ (((e25.2.2.length : Int) - 1) + 1) < (e38.2.2.length : Int) then
 (Option.bind (e38.2.2[(((e25.2.2.length : Int) - 1) + 1).toNat]?) fun e42 =>
 (if (((e25.2.2.length : Int) - 1) + 1).toNat = (((e25.2.2.length : Int) - 1) + 1).toNat then
 (if room e39.2.length ([t2] : List Int).length 8 then
 (if 0 ≤ (((e25.2.2.length : Int) - 1) + 1) ∧ (((e25.2.2.length : Int) - 1) + 1) < (e38.2.2.length : Int) then
 (if (((e25.2.2.length : Int) - 1) + 1).toNat = (((e25.2.2.length : Int) - 1) + 1).toNat then
 (Option.bind (e38.2.2[(((e25.2.2.length : Int) - 1) + 1).toNat]?) fun e43 =>
 (some (b, ((b2.set r.toNat (e37.1, e37.2.1, (e25.2.2 ++ ([(id, ([] : List Int))] : Z5)))).modify r.toNat fun y5 => (y5.1, y5.2.1, (e38.2.2.set (((e25.2.2.length : Int) - 1) + 1).toNat (e43.1, (e39.2 ++ ([t2] : List Int)))))))))
 else none)
 else none)
 else none)
 else none))
 else none)
 else none))
 else none)))) else none))
 else none)
 else none)
 else none))
 else
 (if r.toNat = r.toNat then
 (Option.bind (e25.2.2[((e25.2.2.length : Int) - 1).toNat]?) fun e44 =>
 (Option.bind (b2[r.toNat]?) fun e45 =>
 (if r.toNat = r.toNat then
 (Option.bind (b2[r.toNat]?) fun e46 =>
 (if r.toNat = r.toNat then
 (if 0 ≤ ((e25.2.2.length : Int) - 1) ∧ ((e25.2.2.length : Int) - 1) < (e25.2.2.length : Int) then
 (Option.bind (e25.2.2[((e25.2.2.length : Int) - 1).toNat]?) fun e47 =>
 (if ((e25.2.2.length : Int) - 1).toNat = ((e25.2.2.length : Int) - 1).toNat then
 (if room e44.2.length ([t2] : List Int).length 8 then
 (if 0 ≤ ((e25.2.2.length : Int) - 1) ∧ ((e25.2.2.length : Int) - 1) < (e25.2.2.length : Int) then
 (if ((e25.2.2.length : Int) - 1).toNat = ((e25.2.2.length : Int) - 1).toNat then
 (Option.bind (e25.2.2[((e25.2.2.length : Int) - 1).toNat]?) fun e48 =>
 (some (b, (b2.modify r.toNat fun y6 => (y6.1, y6.2.1, (e25.2.2.set ((e25.2.2.length : Int) - 1).toNat (e48.1, (e44.2 ++ ([t2] : List Int)))))))))
 else none)
 else none)
 else none)
 else none))
 else none)
 else none))
 else none)))
 else none)))
 else none)
 else none))) else none))
 else none)))
def jfl (N : Nat) : Model := ⟨⟨[.box 900000 0, .pv .str, .agg [.pv .str, .pv (.int .i64)], .pv (.int .i64)], [(900000, false, [.pv Y3, .tre 850001 Y6 91])]⟩, ⟨[.tup []], [(900000, false, [.pv Y3, .tre 1 Y6 91])]⟩, fun a => jbI N a.1 a.2.1 a.2.2.1 a.2.2.2.1 a.2.2.2.2.1 a.2.2.2.2.2⟩
theorem jky (N : Nat) : ModelOk Tryz.prog 102 (jfl N) :=
 mO (fC (jrl N) ja) Tryz.func102 rfl N (.seq .no (.seq .no (.seq .no (.seq .no (.seq .no (.seq .no (.touch [.out 9 [(2, 79, 152, 10), (1, 88, 3, 0)]]))))))) (jfl N) (wr := [33, 34, 70, 71, 91, 92]) (rs := [900000, 850001]) (dw := [16, 33, 70])
def jl0 : Sh := ⟨.pv (.int .u64) :: .dead :: .pv (.int .i64) :: dz 22 [], []⟩
def joG : Sh := ⟨.pv (.int .u64) :: .dead :: .pv (.int .i64) :: dz 22 [], []⟩
def jrV : Sh := ⟨.pv (.int .u64) :: .dead :: .pv (.int .i64) :: dz 22 [], []⟩
def k_math_bits_Len64_m (N : Nat) (x : Int) : Z20 :=
 (meet (fun (g : Int × Int) =>
 match g with
 | (x2, n) =>
 (meet (fun (g : Int × Int) =>
 match g with
 | (x3, n2) =>
 (meet (fun (g : Int × Int) =>
 match g with
 | (x4, n3) =>
 (Option.bind (idx ([0, 1, 2, 2, 3, 3, 3, 3, 4, 4, 4, 4, 4, 4, 4, 4, 5, 5, 5, 5, 5, 5, 5, 5, 5, 5, 5, 5, 5, 5, 5, 5, 6, 6, 6, 6, 6, 6, 6, 6, 6, 6, 6, 6, 6, 6, 6, 6, 6, 6, 6, 6, 6, 6, 6, 6, 6, 6, 6, 6, 6, 6, 6, 6, 7, 7, 7, 7, 7, 7, 7, 7, 7, 7, 7, 7, 7, 7, 7, 7, 7, 7, 7, 7, 7, 7, 7, 7, 7, 7, 7, 7, 7, 7, 7, 7, 7, 7, 7, 7, 7, 7, 7, 7, 7, 7, 7, 7, 7, 7, 7, 7, 7, 7, 7, 7, 7, 7, 7, 7, 7, 7, 7, 7, 7, 7, 7, 7, 8, 8, 8, 8, 8, 8, 8, 8, 8, 8, 8, 8, 8, 8, 8, 8, 8, 8, 8, 8, 8, 8, 8, 8, 8, 8, 8, 8, 8, 8, 8, 8, 8, 8, 8, 8, 8, 8, 8, 8, 8, 8, 8, 8, 8, 8, 8, 8, 8, 8, 8, 8, 8, 8, 8, 8, 8, 8, 8, 8, 8, 8, 8, 8, 8, 8, 8, 8, 8, 8, 8, 8, 8, 8, 8, 8, 8, 8, 8, 8, 8, 8, 8, 8, 8, 8, 8, 8, 8, 8, 8, 8, 8, 8, 8, 8, 8, 8, 8, 8, 8, 8, 8, 8, 8, 8, 8, 8, 8, 8, 8, 8, 8, 8, 8, 8, 8, 8, 8, 8, 8, 8, 8, 8, 8, 8, 8, 8] : List UInt8) (IntKind.u8.wrap x4)) fun c =>
 (if fits (n3 + (IntKind.i64.wrap (c.toNat : Int))) then (some (n3 + (IntKind.i64.wrap (c.toNat : Int)))) else none))) fun J3 =>
 (bif (decide ((256 : Int) ≤ x3)) then
 (if 0 ≤ (8 : Int) then
 (if fits (n2 + 8) then (J3 ((x3.fdiv (2 ^ (min (8 : Int).toNat (IntKind.bits .u64)))), (n2 + 8))) else none)
 else none)
 else
 (J3 (x3, n2))))) fun J2 =>
 (bif (decide ((65536 : Int) ≤ x2)) then
 (if 0 ≤ (16 : Int) then
 (if fits (n + 16) then (J2 ((x2.fdiv (2 ^ (min (16 : Int).toNat (IntKind.bits .u64)))), (n + 16))) else none)
 else none)
 else
 (J2 (x2, n))))) fun J =>
 (bif (decide ((4294967296 : Int) ≤ x)) then
 (if 0 ≤ (32 : Int) then
 (J ((x.fdiv (2 ^ (min (32 : Int).toNat (IntKind.bits .u64)))), 32))
 else none)
 else
 (J (x, 0))))
def je9 (N : Nat) : Model := ⟨⟨[.pv (.int .u64)], []⟩, ⟨[.pv (.int .i64)], []⟩, fun a => k_math_bits_Len64_m N a⟩
theorem jrK (N : Nat) : ModelOk Tryz.prog 138 (je9 N) :=
 mO ja Tryz.func138 rfl N (.seq .no (.meet jrV .no (.meet joG .no (.meet jl0 .no .no)))) (je9 N)
def k_math_bits_Len_m (N : Nat) (x : Int) : Z20 :=
 (Option.bind (k_math_bits_Len64_m N x) fun r =>
 (some r))
def jfa (N : Nat) : Model := ⟨⟨[.pv (.int .u64)], []⟩, ⟨[.pv (.int .i64)], []⟩, fun a => k_math_bits_Len_m N a⟩
theorem jda (N : Nat) : ModelOk Tryz.prog 87 (jfa N) :=
 mO (fC (jrK N) ja) Tryz.func87 rfl N .no (jfa N)
def jbn (N : Nat) (x : List UInt8) : Z13 :=
 (some (!decide (x = x)))
def jeS (N : Nat) : Model := ⟨⟨[.pv .str], []⟩, ⟨[.pv .bool], []⟩, fun a => jbn N a⟩
theorem jkt (N : Nat) : ModelOk Tryz.prog 89 (jeS N) :=
 mO ja Tryz.func89 rfl N .no (jeS N)
def jam (N : Nat) (x : List UInt8) (y : List UInt8) : Z20 :=
 (Option.bind (jbn N x) fun r =>
 (Option.bind (jbn N y) fun r2 =>
 (bif r then
 (bif r2 then
 (some 0)
 else
 (some (-1)))
 else
 (bif r2 then
 (some 1)
 else
 (bif (Op.bytesLess x y) then
 (some (-1))
 else
 (bif (!(Op.bytesLess x y || decide (x = y))) then
 (some 1)
 else
 (some 0)))))))
def jiS (N : Nat) : Model := ⟨⟨[.pv .str, .pv .str], []⟩, ⟨[.pv (.int .i64)], []⟩, fun a => jam N a.1 a.2⟩
theorem ji2 (N : Nat) : ModelOk Tryz.prog 46 (jiS N) :=
 mO (fC (jkt N) ja) Tryz.func46 rfl N .no (jiS N)
def jlp : Sh := ⟨dz 3 (.pv (.int .i64) :: .dead :: .dead :: .pv Y19 :: .pv (.int .i64) :: .pv (.int .i64) :: dz 9 []), []⟩
def jbe (N : Nat) (vals : List Int) : Z20 :=
 (iter (fun go (g : Int × (List Int) × Int × Int) =>
 match g with
 | (zero, t6, t7, t8) =>
 (bif (decide (t8 < t7)) then
 (Option.bind (idx t6 t8) fun e =>
 (bif (!decide (e = zero)) then
 (some e)
 else
 (if fits (t8 + 1) then (go (zero, t6, t7, (t8 + 1))) else none)))
 else
 (some zero))) N (0, vals, (vals.length : Int), 0))
def jis (N : Nat) : Model := ⟨⟨[.pv Y19], []⟩, ⟨[.pv (.int .i64)], []⟩, fun a => jbe N a⟩
theorem jhC (N : Nat) : ModelOk Tryz.prog 44 (jis N) :=
 mO ja Tryz.func44 rfl N (.seq .no (.seq .no (.seq (.seq .no (.block (.loop jlp .no))) .no))) (jis N)
def je (N : Nat) (a : List UInt8) (a2 : List UInt8) (a3 : Z5) (b : List UInt8) (b2 : List UInt8) (b3 : Z5) : Z20 :=
 (Option.bind (jam N a b) fun r =>
 (Option.bind (jam N a2 b2) fun r2 =>
 (Option.bind (jbe N ([r, r2] : List Int)) fun r3 =>
 (some r3))))
def jic (N : Nat) : Model := ⟨⟨[.agg [.pv .str, .pv .str, .pv Y11], .agg [.pv .str, .pv .str, .pv Y11]], []⟩, ⟨[.pv (.int .i64)], []⟩, fun a => je N a.1 a.2.1 a.2.2.1 a.2.2.2.1 a.2.2.2.2.1 a.2.2.2.2.2⟩
theorem jaf (N : Nat) : ModelOk Tryz.prog 104 (jic N) :=
 mO (fC (ji2 N) (fC (jhC N) ja)) Tryz.func104 rfl N .no (jic N)
def jny : Sh := ⟨.mtk 800000 Y6 91 false :: .pv (.int .i64) :: .pv (.int .i64) :: .clo 104 [] :: dz 4 (.pv (.int .i64) :: dz 44 []), []⟩
def jll : Sh := ⟨.mtk 800000 Y6 91 false :: .pv (.int .i64) :: .pv (.int .i64) :: .clo 104 [] :: dz 4 (.pv (.int .i64) :: .pv (.int .i64) :: dz 43 []), []⟩
def jeC (N : Nat) (data : List Z2) (a : Int) (b : Int) (cmp : Unit) : Option ((List Z2)) :=
 (if fits (a + 1) then (iter (fun go (g : (List Z2) × Int × Int × Unit × Int) =>
 match g with
 | (data2, a2, b2, cmp2, i) =>
 (bif (decide (i < b2)) then
 (iter (fun go2 (g : Z16) =>
 match g with
 | (data3, a3, b3, cmp3, i2, j) =>
 (bif (decide (a3 < j)) then
 (if 0 ≤ j ∧ j < (data3.length : Int) then
 (Option.bind (data3[j.toNat]?) fun e =>
 (if fits (j - 1) then (if 0 ≤ (j - 1) ∧ (j - 1) < (data3.length : Int) then
 (Option.bind (data3[(j - 1).toNat]?) fun e2 =>
 (Option.bind (je N e.1 e.2.1 e.2.2 e2.1 e2.2.1 e2.2.2) fun r =>
 (bif (decide (r < 0)) then
 (if fits (j - 1) then (if fits (j - 1) then (if 0 ≤ (j - 1) ∧ (j - 1) < (data3.length : Int) then
 (Option.bind (data3[(j - 1).toNat]?) fun e3 =>
 (if 0 ≤ j ∧ j < (data3.length : Int) then
 (Option.bind (data3[j.toNat]?) fun e4 =>
 (if 0 ≤ j ∧ j < (data3.length : Int) then
 (Option.bind (data3[j.toNat]?) fun e5 =>
 (if 0 ≤ (j - 1) ∧ (j - 1) < ((data3.set j.toNat e3).length : Int) then
 (Option.bind ((data3.set j.toNat e3)[(j - 1).toNat]?) fun e6 =>
 (if fits (j - 1) then (go2 (((data3.set j.toNat e3).set (j - 1).toNat e4), a3, b3, (), i2, (j - 1))) else none))
 else none))
 else none))
 else none))
 else none) else none) else none)
 else
 (if fits (i2 + 1) then (go (data3, a3, b3, (), (i2 + 1))) else none))))
 else none) else none))
 else none)
 else
 (if fits (i2 + 1) then (go (data3, a3, b3, (), (i2 + 1))) else none))) N (data2, a2, b2, (), i, i))
 else
 (some data2))) N (data, a, b, (), (a + 1))) else none)
def jjD (N : Nat) : Model := ⟨⟨[.mtk 800000 Y6 91 false, .pv (.int .i64), .pv (.int .i64), .clo 104 []], []⟩, ⟨[.tup [], .mtk 800000 Y6 91 false], []⟩, fun a => jeC N a.1 a.2.1 a.2.2.1 a.2.2.2⟩
theorem jqw (N : Nat) : ModelOk Tryz.prog 195 (jjD N) :=
 mO (fC (jaf N) ja) Tryz.func195 rfl N (.seq .no (.block (.loop jny (.seq .no (.seq (.block (.seq .no (.block (.loop jll .no)))) .no))))) (jjD N) (rs := [800000])
def jnV : Sh := ⟨.mtk 800000 Y6 91 false :: .dead :: .pv (.int .i64) :: .pv (.int .i64) :: .clo 104 [] :: dz 5 (.pv (.int .i64) :: dz 71 []), []⟩
def jmo : Sh := ⟨.mtk 800000 Y6 91 false :: .dead :: .pv (.int .i64) :: .pv (.int .i64) :: .clo 104 [] :: dz 5 (.pv (.int .i64) :: .pv (.int .i64) :: dz 70 []), []⟩
def jdy (N : Nat) (data : List Z2) (lo : Int) (hi : Int) (first : Int) (cmp : Unit) : Option ((List Z2)) :=
 (iter (fun go (g : (List Z2) × Int × Int × Unit × Int) =>
 match g with
 | (data2, hi2, first2, cmp2, root) =>
 (if fits (2 * root) then (if fits ((2 * root) + 1) then (bif (decide (hi2 ≤ ((2 * root) + 1))) then
 (some data2)
 else
 (meet (fun (g : Z16) =>
 match g with
 | (data3, hi3, first3, cmp3, root2, child) =>
 (if fits (first3 + root2) then (if 0 ≤ (first3 + root2) ∧ (first3 + root2) < (data3.length : Int) then
 (Option.bind (data3[(first3 + root2).toNat]?) fun e3 =>
 (if fits (first3 + child) then (if 0 ≤ (first3 + child) ∧ (first3 + child) < (data3.length : Int) then
 (Option.bind (data3[(first3 + child).toNat]?) fun e4 =>
 (Option.bind (je N e3.1 e3.2.1 e3.2.2 e4.1 e4.2.1 e4.2.2) fun r2 =>
 (bif (!(decide (r2 < 0))) then
 (some data3)
 else
 (if fits (first3 + root2) then (if fits (first3 + child) then (if fits (first3 + child) then (if 0 ≤ (first3 + child) ∧ (first3 + child) < (data3.length : Int) then
 (Option.bind (data3[(first3 + child).toNat]?) fun e5 =>
 (if fits (first3 + root2) then (if 0 ≤ (first3 + root2) ∧ (first3 + root2) < (data3.length : Int) then
 (Option.bind (data3[(first3 + root2).toNat]?) fun e6 =>
 (if 0 ≤ (first3 + root2) ∧ (first3 + root2) < (data3.length : Int) then
 (Option.bind (data3[(first3 + root2).toNat]?) fun e7 =>
 (if 0 ≤ (first3 + child) ∧ (first3 + child) < ((data3.set (first3 + root2).toNat e5).length : Int) then
 (Option.bind ((data3.set (first3 + root2).toNat e5)[(first3 + child).toNat]?) fun e8 =>
 (go (((data3.set (first3 + root2).toNat e5).set (first3 + child).toNat e6), hi3, first3, (), child)))
 else none))
 else none))
 else none) else none))
 else none) else none) else none) else none))))
 else none) else none))
 else none) else none)) fun J =>
 (if fits (((2 * root) + 1) + 1) then (bif (decide ((((2 * root) + 1) + 1) < hi2)) then
 (if fits (first2 + ((2 * root) + 1)) then (if 0 ≤ (first2 + ((2 * root) + 1)) ∧ (first2 + ((2 * root) + 1)) < (data2.length : Int) then
 (Option.bind (data2[(first2 + ((2 * root) + 1)).toNat]?) fun e =>
 (if fits (first2 + ((2 * root) + 1)) then (if fits ((first2 + ((2 * root) + 1)) + 1) then (if 0 ≤ ((first2 + ((2 * root) + 1)) + 1) ∧ ((first2 + ((2 * root) + 1)) + 1) < (data2.length : Int) then
 (Option.bind (data2[((first2 + ((2 * root) + 1)) + 1).toNat]?) fun e2 =>
 (Option.bind (je N e.1 e.2.1 e.2.2 e2.1 e2.2.1 e2.2.2) fun r =>
 (bif (decide (r < 0)) then
 (if fits (((2 * root) + 1) + 1) then (J (data2, hi2, first2, (), root, (((2 * root) + 1) + 1))) else none)
 else
 (J (data2, hi2, first2, (), root, ((2 * root) + 1))))))
 else none) else none) else none))
 else none) else none)
 else
 (J (data2, hi2, first2, (), root, ((2 * root) + 1)))) else none))) else none) else none)) N (data, hi, first, (), lo))
def jga (N : Nat) : Model := ⟨⟨[.mtk 800000 Y6 91 false, .pv (.int .i64), .pv (.int .i64), .pv (.int .i64), .clo 104 []], []⟩, ⟨[.tup [], .mtk 800000 Y6 91 false], []⟩, fun a => jdy N a.1 a.2.1 a.2.2.1 a.2.2.2.1 a.2.2.2.2⟩
theorem jqE (N : Nat) : ModelOk Tryz.prog 226 (jga N) :=
 mO (fC (jaf N) ja) Tryz.func226 rfl N (.seq .no (.block (.loop jnV (.block (.seq .no (.seq .no (.meet jmo .no .no))))))) (jga N) (rs := [800000])
def jmY : Sh := ⟨.mtk 800000 Y6 91 false :: .dead :: .dead :: .clo 104 [] :: dz 4 (.pv (.int .i64) :: .pv (.int .i64) :: .pv (.int .i64) :: .pv (.int .i64) :: dz 48 []), []⟩
def jq3 : Sh := ⟨.mtk 800000 Y6 91 false :: .dead :: .dead :: .clo 104 [] :: dz 4 (.pv (.int .i64) :: .pv (.int .i64) :: .dead :: .dead :: .pv (.int .i64) :: dz 47 []), []⟩
def jaC (N : Nat) (data : List Z2) (a : Int) (b : Int) (cmp : Unit) : Option ((List Z2)) :=
 (if fits (b - a) then (if fits ((b - a) - 1) then (if 2 ≠ 0 then
 (if fits (((b - a) - 1).tdiv 2) then (iter (fun go (g : (List Z2) × Unit × Int × Int × Int × Int) =>
 match g with
 | (data2, cmp2, first, lo, hi, i) =>
 (bif (decide ((0 : Int) ≤ i)) then
 (Option.bind (jdy N data2 i hi first ()) fun r =>
 (if fits (i - 1) then (go (r, (), first, lo, hi, (i - 1))) else none))
 else
 (if fits (hi - 1) then (iter (fun go2 (g : (List Z2) × Unit × Int × Int × Int) =>
 match g with
 | (data3, cmp3, first2, lo2, i2) =>
 (bif (decide ((0 : Int) ≤ i2)) then
 (if fits (first2 + i2) then (if fits (first2 + i2) then (if 0 ≤ (first2 + i2) ∧ (first2 + i2) < (data3.length : Int) then
 (Option.bind (data3[(first2 + i2).toNat]?) fun e =>
 (if 0 ≤ first2 ∧ first2 < (data3.length : Int) then
 (Option.bind (data3[first2.toNat]?) fun e2 =>
 (if 0 ≤ first2 ∧ first2 < (data3.length : Int) then
 (Option.bind (data3[first2.toNat]?) fun e3 =>
 (if 0 ≤ (first2 + i2) ∧ (first2 + i2) < ((data3.set first2.toNat e).length : Int) then
 (Option.bind ((data3.set first2.toNat e)[(first2 + i2).toNat]?) fun e4 =>
 (Option.bind (jdy N ((data3.set first2.toNat e).set (first2 + i2).toNat e2) lo2 i2 first2 ()) fun r2 =>
 (if fits (i2 - 1) then (go2 (r2, (), first2, lo2, (i2 - 1))) else none)))
 else none))
 else none))
 else none))
 else none) else none) else none)
 else
 (some data3))) N (data2, (), first, lo, (hi - 1))) else none))) N (data, (), a, 0, (b - a), (((b - a) - 1).tdiv 2))) else none)
 else none) else none) else none)
def jhy (N : Nat) : Model := ⟨⟨[.mtk 800000 Y6 91 false, .pv (.int .i64), .pv (.int .i64), .clo 104 []], []⟩, ⟨[.tup [], .mtk 800000 Y6 91 false], []⟩, fun a => jaC N a.1 a.2.1 a.2.2.1 a.2.2.2⟩
theorem jqz (N : Nat) : ModelOk Tryz.prog 196 (jhy N) :=
 mO (fC (jqE N) ja) Tryz.func196 rfl N (.seq .no (.seq .no (.seq .no (.seq (.seq .no (.block (.loop jmY .no))) (.seq .no (.block (.loop jq3 .no))))))) (jhy N) (rs := [800000])
def k_slices_nextPowerOfTwo_m (N : Nat) (length : Int) : Z20 :=
 (Option.bind (k_math_bits_Len_m N (IntKind.u64.wrap length)) fun r =>
 (if 0 ≤ r then
 (some (IntKind.u64.wrap ((1 : Int) * 2 ^ (min r.toNat (IntKind.bits .u64)))))
 else none))
def jjS (N : Nat) : Model := ⟨⟨[.pv (.int .i64)], []⟩, ⟨[.pv (.int .u64)], []⟩, fun a => k_slices_nextPowerOfTwo_m N a⟩
theorem jhv (N : Nat) : ModelOk Tryz.prog 180 (jjS N) :=
 mO (fC (jda N) ja) Tryz.func180 rfl N .no (jjS N)
def k__slices_xorshift_Next_m (N : Nat) (b : Int) : Option (Int × Int) :=
 (if 0 ≤ (13 : Int) then
 (if 0 ≤ (7 : Int) then
 (if 0 ≤ (17 : Int) then
 (some ((bitsI .xor .u64 (bitsI .xor .u64 (bitsI .xor .u64 b (IntKind.u64.wrap (b * 2 ^ (min (13 : Int).toNat (IntKind.bits .u64))))) ((bitsI .xor .u64 b (IntKind.u64.wrap (b * 2 ^ (min (13 : Int).toNat (IntKind.bits .u64))))).fdiv (2 ^ (min (7 : Int).toNat (IntKind.bits .u64))))) (IntKind.u64.wrap ((bitsI .xor .u64 (bitsI .xor .u64 b (IntKind.u64.wrap (b * 2 ^ (min (13 : Int).toNat (IntKind.bits .u64))))) ((bitsI .xor .u64 b (IntKind.u64.wrap (b * 2 ^ (min (13 : Int).toNat (IntKind.bits .u64))))).fdiv (2 ^ (min (7 : Int).toNat (IntKind.bits .u64))))) * 2 ^ (min (17 : Int).toNat (IntKind.bits .u64))))), (bitsI .xor .u64 (bitsI .xor .u64 (bitsI .xor .u64 b (IntKind.u64.wrap (b * 2 ^ (min (13 : Int).toNat (IntKind.bits .u64))))) ((bitsI .xor .u64 b (IntKind.u64.wrap (b * 2 ^ (min (13 : Int).toNat (IntKind.bits .u64))))).fdiv (2 ^ (min (7 : Int).toNat (IntKind.bits .u64))))) (IntKind.u64.wrap ((bitsI .xor .u64 (bitsI .xor .u64 b (IntKind.u64.wrap (b * 2 ^ (min (13 : Int).toNat (IntKind.bits .u64))))) ((bitsI .xor .u64 b (IntKind.u64.wrap (b * 2 ^ (min (13 : Int).toNat (IntKind.bits .u64))))).fdiv (2 ^ (min (7 : Int).toNat (IntKind.bits .u64))))) * 2 ^ (min (17 : Int).toNat (IntKind.bits .u64)))))))
 else none)
 else none)
 else none)
def jjT (N : Nat) : Model := ⟨⟨[.box 900000 0], [(900000, false, [.pv (.int .u64)])]⟩, ⟨[.pv (.int .u64)], [(900000, false, [.pv (.int .u64)])]⟩, fun a => k__slices_xorshift_Next_m N a⟩
theorem jet (N : Nat) : ModelOk Tryz.prog 181 (jjT N) :=
 mO ja Tryz.func181 rfl N .no (jjT N) (rs := [900000])
def jkH : Sh := ⟨.mtk 800000 Y6 91 false :: .pv (.int .i64) :: dz 6 (.pv (.int .i64) :: .box 9 0 :: .pv (.int .u64) :: .pv (.int .i64) :: dz 55 []), [(9, false, [.pv (.int .u64)])]⟩
def jmx : Sh := ⟨.mtk 800000 Y6 91 false :: .pv (.int .i64) :: dz 6 (.pv (.int .i64) :: .box 9 0 :: .pv (.int .u64) :: .pv (.int .i64) :: .pv (.int .i64) :: dz 54 []), [(9, false, [.pv (.int .u64)])]⟩
def jez (N : Nat) (data : List Z2) (a : Int) (b : Int) (cmp : Unit) : Option ((List Z2)) :=
 (if fits (b - a) then (bif (decide ((8 : Int) ≤ (b - a))) then
 (Option.bind (k_slices_nextPowerOfTwo_m N (b - a)) fun r =>
 (if 4 ≠ 0 then
 (if fits ((b - a).tdiv 4) then (if fits (((b - a).tdiv 4) * 2) then (if fits (a + (((b - a).tdiv 4) * 2)) then (if fits ((a + (((b - a).tdiv 4) * 2)) - 1) then (iter (fun go (g : (List Z2) × Int × Int × Int × Int × Int) =>
 match g with
 | (data2, a2, length, modulus, idx0, random) =>
 (if 4 ≠ 0 then
 (if fits (length.tdiv 4) then (if fits ((length.tdiv 4) * 2) then (if fits (a2 + ((length.tdiv 4) * 2)) then (if fits ((a2 + ((length.tdiv 4) * 2)) + 1) then (bif (decide (idx0 ≤ ((a2 + ((length.tdiv 4) * 2)) + 1))) then
 (Option.bind (k__slices_xorshift_Next_m N random) fun r2 =>
 (meet (fun (g : (List Z2) × Int × Int × Int × Int × Int × Int) =>
 match g with
 | (data3, a3, length2, modulus2, idx02, other, random2) =>
 (if fits (a3 + other) then (if fits (a3 + other) then (if 0 ≤ (a3 + other) ∧ (a3 + other) < (data3.length : Int) then
 (Option.bind (data3[(a3 + other).toNat]?) fun e =>
 (if 0 ≤ idx02 ∧ idx02 < (data3.length : Int) then
 (Option.bind (data3[idx02.toNat]?) fun e2 =>
 (if 0 ≤ idx02 ∧ idx02 < (data3.length : Int) then
 (Option.bind (data3[idx02.toNat]?) fun e3 =>
 (if 0 ≤ (a3 + other) ∧ (a3 + other) < ((data3.set idx02.toNat e).length : Int) then
 (Option.bind ((data3.set idx02.toNat e)[(a3 + other).toNat]?) fun e4 =>
 (if fits (idx02 + 1) then (go (((data3.set idx02.toNat e).set (a3 + other).toNat e2), a3, length2, modulus2, (idx02 + 1), random2)) else none))
 else none))
 else none))
 else none))
 else none) else none) else none)) fun J =>
 (bif (decide (length ≤ (IntKind.i64.wrap (bitsI .and .u64 r2.1 (IntKind.u64.wrap (modulus - 1)))))) then
 (if fits ((IntKind.i64.wrap (bitsI .and .u64 r2.1 (IntKind.u64.wrap (modulus - 1)))) - length) then (J (data2, a2, length, modulus, idx0, ((IntKind.i64.wrap (bitsI .and .u64 r2.1 (IntKind.u64.wrap (modulus - 1)))) - length), r2.2)) else none)
 else
 (J (data2, a2, length, modulus, idx0, (IntKind.i64.wrap (bitsI .and .u64 r2.1 (IntKind.u64.wrap (modulus - 1)))), r2.2)))))
 else
 (some data2)) else none) else none) else none) else none)
 else none)) N (data, a, (b - a), r, ((a + (((b - a).tdiv 4) * 2)) - 1), (IntKind.u64.wrap (b - a)))) else none) else none) else none) else none)
 else none))
 else
 (some data)) else none)
def jgQ (N : Nat) : Model := ⟨⟨[.mtk 800000 Y6 91 false, .pv (.int .i64), .pv (.int .i64), .clo 104 []], []⟩, ⟨[.tup [], .mtk 800000 Y6 91 false], []⟩, fun a => jez N a.1 a.2.1 a.2.2.1 a.2.2.2⟩
theorem jlO (N : Nat) : ModelOk Tryz.prog 197 (jgQ N) :=
 mO (fC (jhv N) (fC (jet N) ja)) Tryz.func197 rfl N (.seq .no (.seq .no (.cond (.seq .no (.seq .no (.seq .no (.block (.loop jkH (.seq .no (.seq (.block (.seq .no (.meet jmx .no .no))) .no))))))) .no))) (jgQ N) (rs := [800000])
def jcG (N : Nat) (data : List Z2) (a : Int) (b : Int) (cmp : Unit) (b2 : Int) : Option (Int × Int × (List Z2) × Int) :=
 (if 0 ≤ b ∧ b < (data.length : Int) then
 (Option.bind (data[b.toNat]?) fun e =>
 (if 0 ≤ a ∧ a < (data.length : Int) then
 (Option.bind (data[a.toNat]?) fun e2 =>
 (Option.bind (je N e.1 e.2.1 e.2.2 e2.1 e2.2.1 e2.2.2) fun r =>
 (bif (decide (r < 0)) then
 (if fits (b2 + 1) then (some (b, a, data, (b2 + 1))) else none)
 else
 (some (a, b, data, b2)))))
 else none))
 else none)
def jfv (N : Nat) : Model := ⟨⟨[.mtk 800000 Y6 91 false, .pv (.int .i64), .pv (.int .i64), .box 900003 0, .clo 104 []], [(900003, false, [.pv (.int .i64)])]⟩, ⟨[.tup [.pv (.int .i64), .pv (.int .i64)], .mtk 800000 Y6 91 false], [(900003, false, [.pv (.int .i64)])]⟩, fun a => jcG N a.1 a.2.1 a.2.2.1 a.2.2.2.1 a.2.2.2.2⟩
theorem jrN (N : Nat) : ModelOk Tryz.prog 238 (jfv N) :=
 mO (fC (jaf N) ja) Tryz.func238 rfl N .no (jfv N) (rs := [900003, 800000])
def jdE (N : Nat) (data : List Z2) (a : Int) (b : Int) (c : Int) (cmp : Unit) (b2 : Int) : Option (Int × (List Z2) × Int) :=
 (Option.bind (jcG N data a b () b2) fun r =>
 (Option.bind (jcG N r.2.2.1 r.2.1 c () r.2.2.2) fun r2 =>
 (Option.bind (jcG N r2.2.2.1 r.1 r2.1 () r2.2.2.2) fun r3 =>
 (some (r3.2.1, r3.2.2.1, r3.2.2.2)))))
def jjH (N : Nat) : Model := ⟨⟨[.mtk 800000 Y6 91 false, .pv (.int .i64), .pv (.int .i64), .pv (.int .i64), .box 900004 0, .clo 104 []], [(900004, false, [.pv (.int .i64)])]⟩, ⟨[.pv (.int .i64), .mtk 800000 Y6 91 false], [(900004, false, [.pv (.int .i64)])]⟩, fun a => jdE N a.1 a.2.1 a.2.2.1 a.2.2.2.1 a.2.2.2.2.1 a.2.2.2.2.2⟩
theorem jfr (N : Nat) : ModelOk Tryz.prog 228 (jjH N) :=
 mO (fC (jrN N) ja) Tryz.func228 rfl N .no (jjH N) (rs := [900004, 800000])
def jca (N : Nat) (data : List Z2) (a : Int) (cmp : Unit) (b : Int) : Option (Int × (List Z2) × Int) :=
 (if fits (a - 1) then (if fits (a + 1) then (Option.bind (jdE N data (a - 1) a (a + 1) () b) fun r =>
 (some (r.1, r.2.1, r.2.2))) else none) else none)
def jjf (N : Nat) : Model := ⟨⟨[.mtk 800000 Y6 91 false, .pv (.int .i64), .box 900002 0, .clo 104 []], [(900002, false, [.pv (.int .i64)])]⟩, ⟨[.pv (.int .i64), .mtk 800000 Y6 91 false], [(900002, false, [.pv (.int .i64)])]⟩, fun a => jca N a.1 a.2.1 a.2.2.1 a.2.2.2⟩
theorem jko (N : Nat) : ModelOk Tryz.prog 227 (jjf N) :=
 mO (fC (jfr N) ja) Tryz.func227 rfl N .no (jjf N) (rs := [900002, 800000])
def jnR : Sh := ⟨.mtk 800000 Y6 91 false :: .dead :: .dead :: .clo 104 [] :: dz 7 (.box 11 0 :: .pv (.int .i64) :: .pv (.int .i64) :: .pv (.int .i64) :: dz 48 []), [(11, false, [.pv (.int .i64)])]⟩
def jrt : Sh := ⟨.mtk 800000 Y6 91 false :: dz 10 (.box 11 0 :: .dead :: .pv (.int .i64) :: dz 49 []), [(11, false, [.pv (.int .i64)])]⟩
def jjM (N : Nat) (data : List Z2) (a : Int) (b : Int) (cmp : Unit) : Option (Int × Int × (List Z2)) :=
 (if fits (b - a) then (if 4 ≠ 0 then
 (if fits ((b - a).tdiv 4) then (if fits (((b - a).tdiv 4) * 1) then (if fits (a + (((b - a).tdiv 4) * 1)) then (if 4 ≠ 0 then
 (if fits ((b - a).tdiv 4) then (if fits (((b - a).tdiv 4) * 2) then (if fits (a + (((b - a).tdiv 4) * 2)) then (if 4 ≠ 0 then
 (if fits ((b - a).tdiv 4) then (if fits (((b - a).tdiv 4) * 3) then (if fits (a + (((b - a).tdiv 4) * 3)) then (meet (fun (g : (List Z2) × Int × Int) =>
 match g with
 | (data3, j2, swaps2) =>
 (bif (decide (swaps2 = 0)) then
 (some (j2, 1, data3))
 else
 (bif (decide (swaps2 = 12)) then
 (some (j2, 2, data3))
 else
 (some (j2, 0, data3))))) fun J =>
 (bif (decide ((8 : Int) ≤ (b - a))) then
 (meet (fun (g : (List Z2) × Unit × Int × Int × Int × Int) =>
 match g with
 | (data2, cmp2, i, j, k, swaps) =>
 (Option.bind (jdE N data2 i j k () swaps) fun r4 =>
 (J (r4.2.1, r4.1, r4.2.2)))) fun J2 =>
 (bif (decide ((50 : Int) ≤ (b - a))) then
 (Option.bind (jca N data (a + (((b - a).tdiv 4) * 1)) () 0) fun r =>
 (Option.bind (jca N r.2.1 (a + (((b - a).tdiv 4) * 2)) () r.2.2) fun r2 =>
 (Option.bind (jca N r2.2.1 (a + (((b - a).tdiv 4) * 3)) () r2.2.2) fun r3 =>
 (J2 (r3.2.1, (), r.1, r2.1, r3.1, r3.2.2)))))
 else
 (J2 (data, (), (a + (((b - a).tdiv 4) * 1)), (a + (((b - a).tdiv 4) * 2)), (a + (((b - a).tdiv 4) * 3)), 0))))
 else
 (J (data, (a + (((b - a).tdiv 4) * 2)), 0)))) else none) else none) else none)
 else none) else none) else none) else none)
 else none) else none) else none) else none)
 else none) else none)
def jeI (N : Nat) : Model := ⟨⟨[.mtk 800000 Y6 91 false, .pv (.int .i64), .pv (.int .i64), .clo 104 []], []⟩, ⟨[.tup [.pv (.int .i64), .pv (.int .i64)], .mtk 800000 Y6 91 false], []⟩, fun a => jjM N a.1 a.2.1 a.2.2.1 a.2.2.2⟩
theorem joO (N : Nat) : ModelOk Tryz.prog 198 (jeI N) :=
 mO (fC (jko N) (fC (jfr N) ja)) Tryz.func198 rfl N (.seq .no (.seq .no (.seq .no (.seq .no (.seq .no (.seq .no (.meet jrt (.seq .no (.cond (.meet jnR .no .no) .no)) .no))))))) (jeI N) (rs := [800000])
def jpl : Sh := ⟨.mtk 800000 Y6 91 false :: dz 7 (.pv (.int .i64) :: .pv (.int .i64) :: dz 24 []), []⟩
def jeV (N : Nat) (data : List Z2) (a : Int) (b : Int) (cmp : Unit) : Option ((List Z2)) :=
 (if fits (b - 1) then (iter (fun go (g : (List Z2) × Int × Int) =>
 match g with
 | (data2, i, j) =>
 (bif (decide (i < j)) then
 (if 0 ≤ j ∧ j < (data2.length : Int) then
 (Option.bind (data2[j.toNat]?) fun e =>
 (if 0 ≤ i ∧ i < (data2.length : Int) then
 (Option.bind (data2[i.toNat]?) fun e2 =>
 (if 0 ≤ i ∧ i < (data2.length : Int) then
 (Option.bind (data2[i.toNat]?) fun e3 =>
 (if 0 ≤ j ∧ j < ((data2.set i.toNat e).length : Int) then
 (Option.bind ((data2.set i.toNat e)[j.toNat]?) fun e4 =>
 (if fits (i + 1) then (if fits (j - 1) then (go (((data2.set i.toNat e).set j.toNat e2), (i + 1), (j - 1))) else none) else none))
 else none))
 else none))
 else none))
 else none)
 else
 (some data2))) N (data, a, (b - 1))) else none)
def jgD (N : Nat) : Model := ⟨⟨[.mtk 800000 Y6 91 false, .pv (.int .i64), .pv (.int .i64), .clo 104 []], []⟩, ⟨[.tup [], .mtk 800000 Y6 91 false], []⟩, fun a => jeV N a.1 a.2.1 a.2.2.1 a.2.2.2⟩
theorem jma (N : Nat) : ModelOk Tryz.prog 199 (jgD N) :=
 mO ja Tryz.func199 rfl N (.seq .no (.seq .no (.block (.loop jpl .no)))) (jgD N) (rs := [800000])
def jn3 : Sh := ⟨.mtk 800000 Y6 91 false :: .pv (.int .i64) :: .pv (.int .i64) :: .clo 104 [] :: dz 5 (.pv (.int .i64) :: .pv (.int .i64) :: dz 130 []), []⟩
def jsw : Sh := ⟨.mtk 800000 Y6 91 false :: .pv (.int .i64) :: .pv (.int .i64) :: .clo 104 [] :: dz 5 (.pv (.int .i64) :: .pv (.int .i64) :: dz 130 []), []⟩
def jsj : Sh := ⟨.mtk 800000 Y6 91 false :: .pv (.int .i64) :: .pv (.int .i64) :: .clo 104 [] :: dz 5 (.pv (.int .i64) :: .pv (.int .i64) :: .pv (.int .i64) :: dz 129 []), []⟩
def jnQ : Sh := ⟨.mtk 800000 Y6 91 false :: .pv (.int .i64) :: .pv (.int .i64) :: .clo 104 [] :: dz 5 (.pv (.int .i64) :: .pv (.int .i64) :: .dead :: .pv (.int .i64) :: dz 128 []), []⟩
def jte : Sh := ⟨.mtk 800000 Y6 91 false :: .pv (.int .i64) :: .pv (.int .i64) :: .clo 104 [] :: dz 5 (.pv (.int .i64) :: .pv (.int .i64) :: dz 130 []), []⟩
def jhb (N : Nat) (data : List Z2) (a : Int) (b : Int) (cmp : Unit) : Option (Bool × (List Z2)) :=
 (if fits (a + 1) then (iter (fun go (g : Z16) =>
 match g with
 | (data2, a2, b2, cmp2, i, j) =>
 (bif (decide (j < 5)) then
 (iter (fun go2 (g : Z16) =>
 match g with
 | (data3, a3, b3, cmp3, i2, j2) =>
 (bif (decide (i2 < b3)) then
 (if 0 ≤ i2 ∧ i2 < (data3.length : Int) then
 (Option.bind (data3[i2.toNat]?) fun e =>
 (if fits (i2 - 1) then (if 0 ≤ (i2 - 1) ∧ (i2 - 1) < (data3.length : Int) then
 (Option.bind (data3[(i2 - 1).toNat]?) fun e2 =>
 (Option.bind (je N e.1 e.2.1 e.2.2 e2.1 e2.2.1 e2.2.2) fun r =>
 (bif (!(decide (r < 0))) then
 (if fits (i2 + 1) then (go2 (data3, a3, b3, (), (i2 + 1), j2)) else none)
 else
 (bif (decide (i2 = b3)) then
 (some (true, data3))
 else
 (if fits (b3 - a3) then (bif (decide ((b3 - a3) < 50)) then
 (some (false, data3))
 else
 (if fits (i2 - 1) then (if fits (i2 - 1) then (if 0 ≤ (i2 - 1) ∧ (i2 - 1) < (data3.length : Int) then
 (Option.bind (data3[(i2 - 1).toNat]?) fun e3 =>
 (if 0 ≤ i2 ∧ i2 < (data3.length : Int) then
 (Option.bind (data3[i2.toNat]?) fun e4 =>
 (if 0 ≤ i2 ∧ i2 < (data3.length : Int) then
 (Option.bind (data3[i2.toNat]?) fun e5 =>
 (if 0 ≤ (i2 - 1) ∧ (i2 - 1) < ((data3.set i2.toNat e3).length : Int) then
 (Option.bind ((data3.set i2.toNat e3)[(i2 - 1).toNat]?) fun e6 =>
 (meet (fun (g : Z16) =>
 match g with
 | (data5, a5, b5, cmp5, i4, j5) =>
 (if fits (b5 - i4) then (bif (decide ((2 : Int) ≤ (b5 - i4))) then
 (if fits (i4 + 1) then (iter (fun go4 (g : Z21) =>
 match g with
 | (data6, a6, b6, cmp6, i5, j6, j7) =>
 (bif (decide (j7 < b6)) then
 (if 0 ≤ j7 ∧ j7 < (data6.length : Int) then
 (Option.bind (data6[j7.toNat]?) fun e13 =>
 (if fits (j7 - 1) then (if 0 ≤ (j7 - 1) ∧ (j7 - 1) < (data6.length : Int) then
 (Option.bind (data6[(j7 - 1).toNat]?) fun e14 =>
 (Option.bind (je N e13.1 e13.2.1 e13.2.2 e14.1 e14.2.1 e14.2.2) fun r3 =>
 (bif (!(decide (r3 < 0))) then
 (if fits (j6 + 1) then (go (data6, a6, b6, (), i5, (j6 + 1))) else none)
 else
 (if fits (j7 - 1) then (if fits (j7 - 1) then (if 0 ≤ (j7 - 1) ∧ (j7 - 1) < (data6.length : Int) then
 (Option.bind (data6[(j7 - 1).toNat]?) fun e15 =>
 (if 0 ≤ j7 ∧ j7 < (data6.length : Int) then
 (Option.bind (data6[j7.toNat]?) fun e16 =>
 (if 0 ≤ j7 ∧ j7 < (data6.length : Int) then
 (Option.bind (data6[j7.toNat]?) fun e17 =>
 (if 0 ≤ (j7 - 1) ∧ (j7 - 1) < ((data6.set j7.toNat e15).length : Int) then
 (Option.bind ((data6.set j7.toNat e15)[(j7 - 1).toNat]?) fun e18 =>
 (if fits (j7 + 1) then (go4 (((data6.set j7.toNat e15).set (j7 - 1).toNat e16), a6, b6, (), i5, j6, (j7 + 1))) else none))
 else none))
 else none))
 else none))
 else none) else none) else none))))
 else none) else none))
 else none)
 else
 (if fits (j6 + 1) then (go (data6, a6, b6, (), i5, (j6 + 1))) else none))) N (data5, a5, b5, (), i4, j5, (i4 + 1))) else none)
 else
 (if fits (j5 + 1) then (go (data5, a5, b5, (), i4, (j5 + 1))) else none)) else none)) fun J =>
 (if fits (i2 - a3) then (bif (decide ((2 : Int) ≤ (i2 - a3))) then
 (if fits (i2 - 1) then (iter (fun go3 (g : Z21) =>
 match g with
 | (data4, a4, b4, cmp4, i3, j3, j4) =>
 (bif (decide ((1 : Int) ≤ j4)) then
 (if 0 ≤ j4 ∧ j4 < (data4.length : Int) then
 (Option.bind (data4[j4.toNat]?) fun e7 =>
 (if fits (j4 - 1) then (if 0 ≤ (j4 - 1) ∧ (j4 - 1) < (data4.length : Int) then
 (Option.bind (data4[(j4 - 1).toNat]?) fun e8 =>
 (Option.bind (je N e7.1 e7.2.1 e7.2.2 e8.1 e8.2.1 e8.2.2) fun r2 =>
 (bif (!(decide (r2 < 0))) then
 (J (data4, a4, b4, (), i3, j3))
 else
 (if fits (j4 - 1) then (if fits (j4 - 1) then (if 0 ≤ (j4 - 1) ∧ (j4 - 1) < (data4.length : Int) then
 (Option.bind (data4[(j4 - 1).toNat]?) fun e9 =>
 (if 0 ≤ j4 ∧ j4 < (data4.length : Int) then
 (Option.bind (data4[j4.toNat]?) fun e10 =>
 (if 0 ≤ j4 ∧ j4 < (data4.length : Int) then
 (Option.bind (data4[j4.toNat]?) fun e11 =>
 (if 0 ≤ (j4 - 1) ∧ (j4 - 1) < ((data4.set j4.toNat e9).length : Int) then
 (Option.bind ((data4.set j4.toNat e9)[(j4 - 1).toNat]?) fun e12 =>
 (if fits (j4 - 1) then (go3 (((data4.set j4.toNat e9).set (j4 - 1).toNat e10), a4, b4, (), i3, j3, (j4 - 1))) else none))
 else none))
 else none))
 else none))
 else none) else none) else none))))
 else none) else none))
 else none)
 else
 (J (data4, a4, b4, (), i3, j3)))) N (((data3.set i2.toNat e3).set (i2 - 1).toNat e4), a3, b3, (), i2, j2, (i2 - 1))) else none)
 else
 (J (((data3.set i2.toNat e3).set (i2 - 1).toNat e4), a3, b3, (), i2, j2))) else none)))
 else none))
 else none))
 else none))
 else none) else none) else none)) else none)))))
 else none) else none))
 else none)
 else
 (bif (decide (i2 = b3)) then
 (some (true, data3))
 else
 (if fits (b3 - a3) then (bif (decide ((b3 - a3) < 50)) then
 (some (false, data3))
 else
 (if fits (i2 - 1) then (if fits (i2 - 1) then (if 0 ≤ (i2 - 1) ∧ (i2 - 1) < (data3.length : Int) then
 (Option.bind (data3[(i2 - 1).toNat]?) fun e19 =>
 (if 0 ≤ i2 ∧ i2 < (data3.length : Int) then
 (Option.bind (data3[i2.toNat]?) fun e20 =>
 (if 0 ≤ i2 ∧ i2 < (data3.length : Int) then
 (Option.bind (data3[i2.toNat]?) fun e21 =>
 (if 0 ≤ (i2 - 1) ∧ (i2 - 1) < ((data3.set i2.toNat e19).length : Int) then
 (Option.bind ((data3.set i2.toNat e19)[(i2 - 1).toNat]?) fun e22 =>
 (meet (fun (g : Z16) =>
 match g with
 | (data8, a8, b8, cmp8, i7, j10) =>
 (if fits (b8 - i7) then (bif (decide ((2 : Int) ≤ (b8 - i7))) then
 (if fits (i7 + 1) then (iter (fun go6 (g : Z21) =>
 match g with
 | (data9, a9, b9, cmp9, i8, j11, j12) =>
 (bif (decide (j12 < b9)) then
 (if 0 ≤ j12 ∧ j12 < (data9.length : Int) then
 (Option.bind (data9[j12.toNat]?) fun e29 =>
 (if fits (j12 - 1) then (if 0 ≤ (j12 - 1) ∧ (j12 - 1) < (data9.length : Int) then
 (Option.bind (data9[(j12 - 1).toNat]?) fun e30 =>
 (Option.bind (je N e29.1 e29.2.1 e29.2.2 e30.1 e30.2.1 e30.2.2) fun r5 =>
 (bif (!(decide (r5 < 0))) then
 (if fits (j11 + 1) then (go (data9, a9, b9, (), i8, (j11 + 1))) else none)
 else
 (if fits (j12 - 1) then (if fits (j12 - 1) then (if 0 ≤ (j12 - 1) ∧ (j12 - 1) < (data9.length : Int) then
 (Option.bind (data9[(j12 - 1).toNat]?) fun e31 =>
 (if 0 ≤ j12 ∧ j12 < (data9.length : Int) then
 (Option.bind (data9[j12.toNat]?) fun e32 =>
 (if 0 ≤ j12 ∧ j12 < (data9.length : Int) then
 (Option.bind (data9[j12.toNat]?) fun e33 =>
 (if 0 ≤ (j12 - 1) ∧ (j12 - 1) < ((data9.set j12.toNat e31).length : Int) then
 (Option.bind ((data9.set j12.toNat e31)[(j12 - 1).toNat]?) fun e34 =>
 (if fits (j12 + 1) then (go6 (((data9.set j12.toNat e31).set (j12 - 1).toNat e32), a9, b9, (), i8, j11, (j12 + 1))) else none))
 else none))
 else none))
 else none))
 else none) else none) else none))))
 else none) else none))
 else none)
 else
 (if fits (j11 + 1) then (go (data9, a9, b9, (), i8, (j11 + 1))) else none))) N (data8, a8, b8, (), i7, j10, (i7 + 1))) else none)
 else
 (if fits (j10 + 1) then (go (data8, a8, b8, (), i7, (j10 + 1))) else none)) else none)) fun J2 =>
 (if fits (i2 - a3) then (bif (decide ((2 : Int) ≤ (i2 - a3))) then
 (if fits (i2 - 1) then (iter (fun go5 (g : Z21) =>
 match g with
 | (data7, a7, b7, cmp7, i6, j8, j9) =>
 (bif (decide ((1 : Int) ≤ j9)) then
 (if 0 ≤ j9 ∧ j9 < (data7.length : Int) then
 (Option.bind (data7[j9.toNat]?) fun e23 =>
 (if fits (j9 - 1) then (if 0 ≤ (j9 - 1) ∧ (j9 - 1) < (data7.length : Int) then
 (Option.bind (data7[(j9 - 1).toNat]?) fun e24 =>
 (Option.bind (je N e23.1 e23.2.1 e23.2.2 e24.1 e24.2.1 e24.2.2) fun r4 =>
 (bif (!(decide (r4 < 0))) then
 (J2 (data7, a7, b7, (), i6, j8))
 else
 (if fits (j9 - 1) then (if fits (j9 - 1) then (if 0 ≤ (j9 - 1) ∧ (j9 - 1) < (data7.length : Int) then
 (Option.bind (data7[(j9 - 1).toNat]?) fun e25 =>
 (if 0 ≤ j9 ∧ j9 < (data7.length : Int) then
 (Option.bind (data7[j9.toNat]?) fun e26 =>
 (if 0 ≤ j9 ∧ j9 < (data7.length : Int) then
 (Option.bind (data7[j9.toNat]?) fun e27 =>
 (if 0 ≤ (j9 - 1) ∧ (j9 - 1) < ((data7.set j9.toNat e25).length : Int) then
 (Option.bind ((data7.set j9.toNat e25)[(j9 - 1).toNat]?) fun e28 =>
 (if fits (j9 - 1) then (go5 (((data7.set j9.toNat e25).set (j9 - 1).toNat e26), a7, b7, (), i6, j8, (j9 - 1))) else none))
 else none))
 else none))
 else none))
 else none) else none) else none))))
 else none) else none))
 else none)
 else
 (J2 (data7, a7, b7, (), i6, j8)))) N (((data3.set i2.toNat e19).set (i2 - 1).toNat e20), a3, b3, (), i2, j2, (i2 - 1))) else none)
 else
 (J2 (((data3.set i2.toNat e19).set (i2 - 1).toNat e20), a3, b3, (), i2, j2))) else none)))
 else none))
 else none))
 else none))
 else none) else none) else none)) else none)))) N (data2, a2, b2, (), i, j))
 else
 (some (false, data2)))) N (data, a, b, (), (a + 1), 0)) else none)
def jgK (N : Nat) : Model := ⟨⟨[.mtk 800000 Y6 91 false, .pv (.int .i64), .pv (.int .i64), .clo 104 []], []⟩, ⟨[.pv .bool, .mtk 800000 Y6 91 false], []⟩, fun a => jhb N a.1 a.2.1 a.2.2.1 a.2.2.2⟩
theorem jnw (N : Nat) : ModelOk Tryz.prog 200 (jgK N) :=
 mO (fC (jaf N) ja) Tryz.func200 rfl N (.seq .no (.seq .no (.seq (.seq .no (.block (.loop jn3 (.seq .no (.seq (.block (.seq (.block (.loop jsw .no)) (.seq .no (.seq .no (.seq .no (.meet jte (.seq .no (.cond (.seq .no (.block (.loop jsj .no))) .no)) (.seq .no (.cond (.seq .no (.block (.loop jnQ .no))) .no)))))))) .no))))) .no))) (jgK N) (rs := [800000])
def jnv : Sh := ⟨.mtk 800000 Y6 91 false :: .pv (.int .i64) :: .dead :: .dead :: .clo 104 [] :: dz 6 (.pv (.int .i64) :: .pv (.int .i64) :: dz 77 []), []⟩
def jkG : Sh := ⟨.mtk 800000 Y6 91 false :: .pv (.int .i64) :: .dead :: .dead :: .clo 104 [] :: dz 6 (.pv (.int .i64) :: .pv (.int .i64) :: dz 77 []), []⟩
def jkv : Sh := ⟨.mtk 800000 Y6 91 false :: .pv (.int .i64) :: .dead :: .dead :: .clo 104 [] :: dz 6 (.pv (.int .i64) :: .pv (.int .i64) :: dz 77 []), []⟩
def jbG (N : Nat) (data : List Z2) (a : Int) (b : Int) (pivot : Int) (cmp : Unit) : Option (Int × (List Z2)) :=
 (if 0 ≤ pivot ∧ pivot < (data.length : Int) then
 (Option.bind (data[pivot.toNat]?) fun e =>
 (if 0 ≤ a ∧ a < (data.length : Int) then
 (Option.bind (data[a.toNat]?) fun e2 =>
 (if 0 ≤ a ∧ a < (data.length : Int) then
 (Option.bind (data[a.toNat]?) fun e3 =>
 (if 0 ≤ pivot ∧ pivot < ((data.set a.toNat e).length : Int) then
 (Option.bind ((data.set a.toNat e)[pivot.toNat]?) fun e4 =>
 (if fits (a + 1) then (if fits (b - 1) then (iter (fun go (g : Z7) =>
 match g with
 | (data2, a2, cmp2, i, j) =>
 (iter (fun go2 (g : Z7) =>
 match g with
 | (data3, a3, cmp3, i2, j2) =>
 (bif (decide (i2 ≤ j2)) then
 (if 0 ≤ a3 ∧ a3 < (data3.length : Int) then
 (Option.bind (data3[a3.toNat]?) fun e5 =>
 (if 0 ≤ i2 ∧ i2 < (data3.length : Int) then
 (Option.bind (data3[i2.toNat]?) fun e6 =>
 (Option.bind (je N e5.1 e5.2.1 e5.2.2 e6.1 e6.2.1 e6.2.2) fun r =>
 (bif (!(decide (r < 0))) then
 (if fits (i2 + 1) then (go2 (data3, a3, (), (i2 + 1), j2)) else none)
 else
 (iter (fun go3 (g : Z7) =>
 match g with
 | (data4, a4, cmp4, i3, j3) =>
 (bif (decide (i3 ≤ j3)) then
 (if 0 ≤ a4 ∧ a4 < (data4.length : Int) then
 (Option.bind (data4[a4.toNat]?) fun e7 =>
 (if 0 ≤ j3 ∧ j3 < (data4.length : Int) then
 (Option.bind (data4[j3.toNat]?) fun e8 =>
 (Option.bind (je N e7.1 e7.2.1 e7.2.2 e8.1 e8.2.1 e8.2.2) fun r2 =>
 (bif (decide (r2 < 0)) then
 (if fits (j3 - 1) then (go3 (data4, a4, (), i3, (j3 - 1))) else none)
 else
 (bif (decide (j3 < i3)) then
 (some (i3, data4))
 else
 (if 0 ≤ j3 ∧ j3 < (data4.length : Int) then
 (Option.bind (data4[j3.toNat]?) fun e9 =>
 (if 0 ≤ i3 ∧ i3 < (data4.length : Int) then
 (Option.bind (data4[i3.toNat]?) fun e10 =>
 (if 0 ≤ i3 ∧ i3 < (data4.length : Int) then
 (Option.bind (data4[i3.toNat]?) fun e11 =>
 (if 0 ≤ j3 ∧ j3 < ((data4.set i3.toNat e9).length : Int) then
 (Option.bind ((data4.set i3.toNat e9)[j3.toNat]?) fun e12 =>
 (if fits (i3 + 1) then (if fits (j3 - 1) then (go (((data4.set i3.toNat e9).set j3.toNat e10), a4, (), (i3 + 1), (j3 - 1))) else none) else none))
 else none))
 else none))
 else none))
 else none)))))
 else none))
 else none)
 else
 (bif (decide (j3 < i3)) then
 (some (i3, data4))
 else
 (if 0 ≤ j3 ∧ j3 < (data4.length : Int) then
 (Option.bind (data4[j3.toNat]?) fun e13 =>
 (if 0 ≤ i3 ∧ i3 < (data4.length : Int) then
 (Option.bind (data4[i3.toNat]?) fun e14 =>
 (if 0 ≤ i3 ∧ i3 < (data4.length : Int) then
 (Option.bind (data4[i3.toNat]?) fun e15 =>
 (if 0 ≤ j3 ∧ j3 < ((data4.set i3.toNat e13).length : Int) then
 (Option.bind ((data4.set i3.toNat e13)[j3.toNat]?) fun e16 =>
 (if fits (i3 + 1) then (if fits (j3 - 1) then (go (((data4.set i3.toNat e13).set j3.toNat e14), a4, (), (i3 + 1), (j3 - 1))) else none) else none))
 else none))
 else none))
 else none))
 else none)))) N (data3, a3, (), i2, j2)))))
 else none))
 else none)
 else
 (iter (fun go4 (g : Z7) =>
 match g with
 | (data5, a5, cmp5, i4, j4) =>
 (bif (decide (i4 ≤ j4)) then
 (if 0 ≤ a5 ∧ a5 < (data5.length : Int) then
 (Option.bind (data5[a5.toNat]?) fun e17 =>
 (if 0 ≤ j4 ∧ j4 < (data5.length : Int) then
 (Option.bind (data5[j4.toNat]?) fun e18 =>
 (Option.bind (je N e17.1 e17.2.1 e17.2.2 e18.1 e18.2.1 e18.2.2) fun r3 =>
 (bif (decide (r3 < 0)) then
 (if fits (j4 - 1) then (go4 (data5, a5, (), i4, (j4 - 1))) else none)
 else
 (bif (decide (j4 < i4)) then
 (some (i4, data5))
 else
 (if 0 ≤ j4 ∧ j4 < (data5.length : Int) then
 (Option.bind (data5[j4.toNat]?) fun e19 =>
 (if 0 ≤ i4 ∧ i4 < (data5.length : Int) then
 (Option.bind (data5[i4.toNat]?) fun e20 =>
 (if 0 ≤ i4 ∧ i4 < (data5.length : Int) then
 (Option.bind (data5[i4.toNat]?) fun e21 =>
 (if 0 ≤ j4 ∧ j4 < ((data5.set i4.toNat e19).length : Int) then
 (Option.bind ((data5.set i4.toNat e19)[j4.toNat]?) fun e22 =>
 (if fits (i4 + 1) then (if fits (j4 - 1) then (go (((data5.set i4.toNat e19).set j4.toNat e20), a5, (), (i4 + 1), (j4 - 1))) else none) else none))
 else none))
 else none))
 else none))
 else none)))))
 else none))
 else none)
 else
 (bif (decide (j4 < i4)) then
 (some (i4, data5))
 else
 (if 0 ≤ j4 ∧ j4 < (data5.length : Int) then
 (Option.bind (data5[j4.toNat]?) fun e23 =>
 (if 0 ≤ i4 ∧ i4 < (data5.length : Int) then
 (Option.bind (data5[i4.toNat]?) fun e24 =>
 (if 0 ≤ i4 ∧ i4 < (data5.length : Int) then
 (Option.bind (data5[i4.toNat]?) fun e25 =>
 (if 0 ≤ j4 ∧ j4 < ((data5.set i4.toNat e23).length : Int) then
 (Option.bind ((data5.set i4.toNat e23)[j4.toNat]?) fun e26 =>
 (if fits (i4 + 1) then (if fits (j4 - 1) then (go (((data5.set i4.toNat e23).set j4.toNat e24), a5, (), (i4 + 1), (j4 - 1))) else none) else none))
 else none))
 else none))
 else none))
 else none)))) N (data3, a3, (), i2, j2)))) N (data2, a2, (), i, j))) N (((data.set a.toNat e).set pivot.toNat e2), a, (), (a + 1), (b - 1))) else none) else none))
 else none))
 else none))
 else none))
 else none)
def jhr (N : Nat) : Model := ⟨⟨[.mtk 800000 Y6 91 false, .pv (.int .i64), .pv (.int .i64), .pv (.int .i64), .clo 104 []], []⟩, ⟨[.pv (.int .i64), .mtk 800000 Y6 91 false], []⟩, fun a => jbG N a.1 a.2.1 a.2.2.1 a.2.2.2.1 a.2.2.2.2⟩
theorem jp1 (N : Nat) : ModelOk Tryz.prog 201 (jhr N) :=
 mO (fC (jaf N) ja) Tryz.func201 rfl N (.seq .no (.seq .no (.seq .no (.seq (.block (.loop jnv (.block (.seq (.block (.loop jkG .no)) (.seq (.block (.loop jkv .no)) .no))))) .no)))) (jhr N) (rs := [800000])
def jru : Sh := ⟨.mtk 800000 Y6 91 false :: .pv (.int .i64) :: .dead :: .dead :: .clo 104 [] :: dz 7 (.pv (.int .i64) :: .pv (.int .i64) :: dz 164 []), []⟩
def jqO : Sh := ⟨.mtk 800000 Y6 91 false :: .pv (.int .i64) :: .dead :: .dead :: .clo 104 [] :: dz 7 (.pv (.int .i64) :: .pv (.int .i64) :: dz 164 []), []⟩
def jo9 : Sh := ⟨.mtk 800000 Y6 91 false :: .pv (.int .i64) :: .dead :: .dead :: .clo 104 [] :: dz 7 (.pv (.int .i64) :: .pv (.int .i64) :: dz 164 []), []⟩
def jsG : Sh := ⟨.mtk 800000 Y6 91 false :: .pv (.int .i64) :: .dead :: .dead :: .clo 104 [] :: dz 7 (.pv (.int .i64) :: .pv (.int .i64) :: dz 164 []), []⟩
def jkE : Sh := ⟨.mtk 800000 Y6 91 false :: .pv (.int .i64) :: .dead :: .dead :: .clo 104 [] :: dz 7 (.pv (.int .i64) :: .pv (.int .i64) :: dz 164 []), []⟩
def jcT (N : Nat) (data : List Z2) (a : Int) (b : Int) (pivot : Int) (cmp : Unit) : Option (Int × Bool × (List Z2)) :=
 (if 0 ≤ pivot ∧ pivot < (data.length : Int) then
 (Option.bind (data[pivot.toNat]?) fun e =>
 (if 0 ≤ a ∧ a < (data.length : Int) then
 (Option.bind (data[a.toNat]?) fun e2 =>
 (if 0 ≤ a ∧ a < (data.length : Int) then
 (Option.bind (data[a.toNat]?) fun e3 =>
 (if 0 ≤ pivot ∧ pivot < ((data.set a.toNat e).length : Int) then
 (Option.bind ((data.set a.toNat e)[pivot.toNat]?) fun e4 =>
 (if fits (a + 1) then (if fits (b - 1) then (iter (fun go (g : Z7) =>
 match g with
 | (data2, a2, cmp2, i, j) =>
 (bif (decide (i ≤ j)) then
 (if 0 ≤ i ∧ i < (data2.length : Int) then
 (Option.bind (data2[i.toNat]?) fun e5 =>
 (if 0 ≤ a2 ∧ a2 < (data2.length : Int) then
 (Option.bind (data2[a2.toNat]?) fun e6 =>
 (Option.bind (je N e5.1 e5.2.1 e5.2.2 e6.1 e6.2.1 e6.2.2) fun r =>
 (bif (decide (r < 0)) then
 (if fits (i + 1) then (go (data2, a2, (), (i + 1), j)) else none)
 else
 (iter (fun go2 (g : Z7) =>
 match g with
 | (data3, a3, cmp3, i2, j2) =>
 (bif (decide (i2 ≤ j2)) then
 (if 0 ≤ j2 ∧ j2 < (data3.length : Int) then
 (Option.bind (data3[j2.toNat]?) fun e7 =>
 (if 0 ≤ a3 ∧ a3 < (data3.length : Int) then
 (Option.bind (data3[a3.toNat]?) fun e8 =>
 (Option.bind (je N e7.1 e7.2.1 e7.2.2 e8.1 e8.2.1 e8.2.2) fun r2 =>
 (bif (!(decide (r2 < 0))) then
 (if fits (j2 - 1) then (go2 (data3, a3, (), i2, (j2 - 1))) else none)
 else
 (bif (decide (j2 < i2)) then
 (if 0 ≤ a3 ∧ a3 < (data3.length : Int) then
 (Option.bind (data3[a3.toNat]?) fun e9 =>
 (if 0 ≤ j2 ∧ j2 < (data3.length : Int) then
 (Option.bind (data3[j2.toNat]?) fun e10 =>
 (if 0 ≤ j2 ∧ j2 < (data3.length : Int) then
 (Option.bind (data3[j2.toNat]?) fun e11 =>
 (if 0 ≤ a3 ∧ a3 < ((data3.set j2.toNat e9).length : Int) then
 (Option.bind ((data3.set j2.toNat e9)[a3.toNat]?) fun e12 =>
 (some (j2, true, ((data3.set j2.toNat e9).set a3.toNat e10))))
 else none))
 else none))
 else none))
 else none)
 else
 (if 0 ≤ j2 ∧ j2 < (data3.length : Int) then
 (Option.bind (data3[j2.toNat]?) fun e13 =>
 (if 0 ≤ i2 ∧ i2 < (data3.length : Int) then
 (Option.bind (data3[i2.toNat]?) fun e14 =>
 (if 0 ≤ i2 ∧ i2 < (data3.length : Int) then
 (Option.bind (data3[i2.toNat]?) fun e15 =>
 (if 0 ≤ j2 ∧ j2 < ((data3.set i2.toNat e13).length : Int) then
 (Option.bind ((data3.set i2.toNat e13)[j2.toNat]?) fun e16 =>
 (if fits (i2 + 1) then (if fits (j2 - 1) then (iter (fun go3 (g : Z7) =>
 match g with
 | (data4, a4, cmp4, i3, j3) =>
 (iter (fun go4 (g : Z7) =>
 match g with
 | (data5, a5, cmp5, i4, j4) =>
 (bif (decide (i4 ≤ j4)) then
 (if 0 ≤ i4 ∧ i4 < (data5.length : Int) then
 (Option.bind (data5[i4.toNat]?) fun e17 =>
 (if 0 ≤ a5 ∧ a5 < (data5.length : Int) then
 (Option.bind (data5[a5.toNat]?) fun e18 =>
 (Option.bind (je N e17.1 e17.2.1 e17.2.2 e18.1 e18.2.1 e18.2.2) fun r3 =>
 (bif (decide (r3 < 0)) then
 (if fits (i4 + 1) then (go4 (data5, a5, (), (i4 + 1), j4)) else none)
 else
 (iter (fun go5 (g : Z7) =>
 match g with
 | (data6, a6, cmp6, i5, j5) =>
 (bif (decide (i5 ≤ j5)) then
 (if 0 ≤ j5 ∧ j5 < (data6.length : Int) then
 (Option.bind (data6[j5.toNat]?) fun e19 =>
 (if 0 ≤ a6 ∧ a6 < (data6.length : Int) then
 (Option.bind (data6[a6.toNat]?) fun e20 =>
 (Option.bind (je N e19.1 e19.2.1 e19.2.2 e20.1 e20.2.1 e20.2.2) fun r4 =>
 (bif (!(decide (r4 < 0))) then
 (if fits (j5 - 1) then (go5 (data6, a6, (), i5, (j5 - 1))) else none)
 else
 (bif (decide (j5 < i5)) then
 (if 0 ≤ a6 ∧ a6 < (data6.length : Int) then
 (Option.bind (data6[a6.toNat]?) fun e21 =>
 (if 0 ≤ j5 ∧ j5 < (data6.length : Int) then
 (Option.bind (data6[j5.toNat]?) fun e22 =>
 (if 0 ≤ j5 ∧ j5 < (data6.length : Int) then
 (Option.bind (data6[j5.toNat]?) fun e23 =>
 (if 0 ≤ a6 ∧ a6 < ((data6.set j5.toNat e21).length : Int) then
 (Option.bind ((data6.set j5.toNat e21)[a6.toNat]?) fun e24 =>
 (some (j5, false, ((data6.set j5.toNat e21).set a6.toNat e22))))
 else none))
 else none))
 else none))
 else none)
 else
 (if 0 ≤ j5 ∧ j5 < (data6.length : Int) then
 (Option.bind (data6[j5.toNat]?) fun e25 =>
 (if 0 ≤ i5 ∧ i5 < (data6.length : Int) then
 (Option.bind (data6[i5.toNat]?) fun e26 =>
 (if 0 ≤ i5 ∧ i5 < (data6.length : Int) then
 (Option.bind (data6[i5.toNat]?) fun e27 =>
 (if 0 ≤ j5 ∧ j5 < ((data6.set i5.toNat e25).length : Int) then
 (Option.bind ((data6.set i5.toNat e25)[j5.toNat]?) fun e28 =>
 (if fits (i5 + 1) then (if fits (j5 - 1) then (go3 (((data6.set i5.toNat e25).set j5.toNat e26), a6, (), (i5 + 1), (j5 - 1))) else none) else none))
 else none))
 else none))
 else none))
 else none)))))
 else none))
 else none)
 else
 (bif (decide (j5 < i5)) then
 (if 0 ≤ a6 ∧ a6 < (data6.length : Int) then
 (Option.bind (data6[a6.toNat]?) fun e29 =>
 (if 0 ≤ j5 ∧ j5 < (data6.length : Int) then
 (Option.bind (data6[j5.toNat]?) fun e30 =>
 (if 0 ≤ j5 ∧ j5 < (data6.length : Int) then
 (Option.bind (data6[j5.toNat]?) fun e31 =>
 (if 0 ≤ a6 ∧ a6 < ((data6.set j5.toNat e29).length : Int) then
 (Option.bind ((data6.set j5.toNat e29)[a6.toNat]?) fun e32 =>
 (some (j5, false, ((data6.set j5.toNat e29).set a6.toNat e30))))
 else none))
 else none))
 else none))
 else none)
 else
 (if 0 ≤ j5 ∧ j5 < (data6.length : Int) then
 (Option.bind (data6[j5.toNat]?) fun e33 =>
 (if 0 ≤ i5 ∧ i5 < (data6.length : Int) then
 (Option.bind (data6[i5.toNat]?) fun e34 =>
 (if 0 ≤ i5 ∧ i5 < (data6.length : Int) then
 (Option.bind (data6[i5.toNat]?) fun e35 =>
 (if 0 ≤ j5 ∧ j5 < ((data6.set i5.toNat e33).length : Int) then
 (Option.bind ((data6.set i5.toNat e33)[j5.toNat]?) fun e36 =>
 (if fits (i5 + 1) then (if fits (j5 - 1) then (go3 (((data6.set i5.toNat e33).set j5.toNat e34), a6, (), (i5 + 1), (j5 - 1))) else none) else none))
 else none))
 else none))
 else none))
 else none)))) N (data5, a5, (), i4, j4)))))
 else none))
 else none)
 else
 (iter (fun go6 (g : Z7) =>
 match g with
 | (data7, a7, cmp7, i6, j6) =>
 (bif (decide (i6 ≤ j6)) then
 (if 0 ≤ j6 ∧ j6 < (data7.length : Int) then
 (Option.bind (data7[j6.toNat]?) fun e37 =>
 (if 0 ≤ a7 ∧ a7 < (data7.length : Int) then
 (Option.bind (data7[a7.toNat]?) fun e38 =>
 (Option.bind (je N e37.1 e37.2.1 e37.2.2 e38.1 e38.2.1 e38.2.2) fun r5 =>
 (bif (!(decide (r5 < 0))) then
 (if fits (j6 - 1) then (go6 (data7, a7, (), i6, (j6 - 1))) else none)
 else
 (bif (decide (j6 < i6)) then
 (if 0 ≤ a7 ∧ a7 < (data7.length : Int) then
 (Option.bind (data7[a7.toNat]?) fun e39 =>
 (if 0 ≤ j6 ∧ j6 < (data7.length : Int) then
 (Option.bind (data7[j6.toNat]?) fun e40 =>
 (if 0 ≤ j6 ∧ j6 < (data7.length : Int) then
 (Option.bind (data7[j6.toNat]?) fun e41 =>
 (if 0 ≤ a7 ∧ a7 < ((data7.set j6.toNat e39).length : Int) then
 (Option.bind ((data7.set j6.toNat e39)[a7.toNat]?) fun e42 =>
 (some (j6, false, ((data7.set j6.toNat e39).set a7.toNat e40))))
 else none))
 else none))
 else none))
 else none)
 else
 (if 0 ≤ j6 ∧ j6 < (data7.length : Int) then
 (Option.bind (data7[j6.toNat]?) fun e43 =>
 (if 0 ≤ i6 ∧ i6 < (data7.length : Int) then
 (Option.bind (data7[i6.toNat]?) fun e44 =>
 (if 0 ≤ i6 ∧ i6 < (data7.length : Int) then
 (Option.bind (data7[i6.toNat]?) fun e45 =>
 (if 0 ≤ j6 ∧ j6 < ((data7.set i6.toNat e43).length : Int) then
 (Option.bind ((data7.set i6.toNat e43)[j6.toNat]?) fun e46 =>
 (if fits (i6 + 1) then (if fits (j6 - 1) then (go3 (((data7.set i6.toNat e43).set j6.toNat e44), a7, (), (i6 + 1), (j6 - 1))) else none) else none))
 else none))
 else none))
 else none))
 else none)))))
 else none))
 else none)
 else
 (bif (decide (j6 < i6)) then
 (if 0 ≤ a7 ∧ a7 < (data7.length : Int) then
 (Option.bind (data7[a7.toNat]?) fun e47 =>
 (if 0 ≤ j6 ∧ j6 < (data7.length : Int) then
 (Option.bind (data7[j6.toNat]?) fun e48 =>
 (if 0 ≤ j6 ∧ j6 < (data7.length : Int) then
 (Option.bind (data7[j6.toNat]?) fun e49 =>
 (if 0 ≤ a7 ∧ a7 < ((data7.set j6.toNat e47).length : Int) then
 (Option.bind ((data7.set j6.toNat e47)[a7.toNat]?) fun e50 =>
 (some (j6, false, ((data7.set j6.toNat e47).set a7.toNat e48))))
 else none))
 else none))
 else none))
 else none)
 else
 (if 0 ≤ j6 ∧ j6 < (data7.length : Int) then
 (Option.bind (data7[j6.toNat]?) fun e51 =>
 (if 0 ≤ i6 ∧ i6 < (data7.length : Int) then
 (Option.bind (data7[i6.toNat]?) fun e52 =>
 (if 0 ≤ i6 ∧ i6 < (data7.length : Int) then
 (Option.bind (data7[i6.toNat]?) fun e53 =>
 (if 0 ≤ j6 ∧ j6 < ((data7.set i6.toNat e51).length : Int) then
 (Option.bind ((data7.set i6.toNat e51)[j6.toNat]?) fun e54 =>
 (if fits (i6 + 1) then (if fits (j6 - 1) then (go3 (((data7.set i6.toNat e51).set j6.toNat e52), a7, (), (i6 + 1), (j6 - 1))) else none) else none))
 else none))
 else none))
 else none))
 else none)))) N (data5, a5, (), i4, j4)))) N (data4, a4, (), i3, j3))) N (((data3.set i2.toNat e13).set j2.toNat e14), a3, (), (i2 + 1), (j2 - 1))) else none) else none))
 else none))
 else none))
 else none))
 else none)))))
 else none))
 else none)
 else
 (bif (decide (j2 < i2)) then
 (if 0 ≤ a3 ∧ a3 < (data3.length : Int) then
 (Option.bind (data3[a3.toNat]?) fun e55 =>
 (if 0 ≤ j2 ∧ j2 < (data3.length : Int) then
 (Option.bind (data3[j2.toNat]?) fun e56 =>
 (if 0 ≤ j2 ∧ j2 < (data3.length : Int) then
 (Option.bind (data3[j2.toNat]?) fun e57 =>
 (if 0 ≤ a3 ∧ a3 < ((data3.set j2.toNat e55).length : Int) then
 (Option.bind ((data3.set j2.toNat e55)[a3.toNat]?) fun e58 =>
 (some (j2, true, ((data3.set j2.toNat e55).set a3.toNat e56))))
 else none))
 else none))
 else none))
 else none)
 else
 (if 0 ≤ j2 ∧ j2 < (data3.length : Int) then
 (Option.bind (data3[j2.toNat]?) fun e59 =>
 (if 0 ≤ i2 ∧ i2 < (data3.length : Int) then
 (Option.bind (data3[i2.toNat]?) fun e60 =>
 (if 0 ≤ i2 ∧ i2 < (data3.length : Int) then
 (Option.bind (data3[i2.toNat]?) fun e61 =>
 (if 0 ≤ j2 ∧ j2 < ((data3.set i2.toNat e59).length : Int) then
 (Option.bind ((data3.set i2.toNat e59)[j2.toNat]?) fun e62 =>
 (if fits (i2 + 1) then (if fits (j2 - 1) then (iter (fun go7 (g : Z7) =>
 match g with
 | (data8, a8, cmp8, i7, j7) =>
 (iter (fun go8 (g : Z7) =>
 match g with
 | (data9, a9, cmp9, i8, j8) =>
 (bif (decide (i8 ≤ j8)) then
 (if 0 ≤ i8 ∧ i8 < (data9.length : Int) then
 (Option.bind (data9[i8.toNat]?) fun e63 =>
 (if 0 ≤ a9 ∧ a9 < (data9.length : Int) then
 (Option.bind (data9[a9.toNat]?) fun e64 =>
 (Option.bind (je N e63.1 e63.2.1 e63.2.2 e64.1 e64.2.1 e64.2.2) fun r6 =>
 (bif (decide (r6 < 0)) then
 (if fits (i8 + 1) then (go8 (data9, a9, (), (i8 + 1), j8)) else none)
 else
 (iter (fun go9 (g : Z7) =>
 match g with
 | (data10, a10, cmp10, i9, j9) =>
 (bif (decide (i9 ≤ j9)) then
 (if 0 ≤ j9 ∧ j9 < (data10.length : Int) then
 (Option.bind (data10[j9.toNat]?) fun e65 =>
 (if 0 ≤ a10 ∧ a10 < (data10.length : Int) then
 (Option.bind (data10[a10.toNat]?) fun e66 =>
 (Option.bind (je N e65.1 e65.2.1 e65.2.2 e66.1 e66.2.1 e66.2.2) fun r7 =>
 (bif (!(decide (r7 < 0))) then
 (if fits (j9 - 1) then (go9 (data10, a10, (), i9, (j9 - 1))) else none)
 else
 (bif (decide (j9 < i9)) then
 (if 0 ≤ a10 ∧ a10 < (data10.length : Int) then
 (Option.bind (data10[a10.toNat]?) fun e67 =>
 (if 0 ≤ j9 ∧ j9 < (data10.length : Int) then
 (Option.bind (data10[j9.toNat]?) fun e68 =>
 (if 0 ≤ j9 ∧ j9 < (data10.length : Int) then
 (Option.bind (data10[j9.toNat]?) fun e69 =>
 (if 0 ≤ a10 ∧ a10 < ((data10.set j9.toNat e67).length : Int) then
 (Option.bind ((data10.set j9.toNat e67)[a10.toNat]?) fun e70 =>
 (some (j9, false, ((data10.set j9.toNat e67).set a10.toNat e68))))
 else none))
 else none))
 else none))
 else none)
 else
 (if 0 ≤ j9 ∧ j9 < (data10.length : Int) then
 (Option.bind (data10[j9.toNat]?) fun e71 =>
 (if 0 ≤ i9 ∧ i9 < (data10.length : Int) then
 (Option.bind (data10[i9.toNat]?) fun e72 =>
 (if 0 ≤ i9 ∧ i9 < (data10.length : Int) then
 (Option.bind (data10[i9.toNat]?) fun e73 =>
 (if 0 ≤ j9 ∧ j9 < ((data10.set i9.toNat e71).length : Int) then
 (Option.bind ((data10.set i9.toNat e71)[j9.toNat]?) fun e74 =>
 (if fits (i9 + 1) then (if fits (j9 - 1) then (go7 (((data10.set i9.toNat e71).set j9.toNat e72), a10, (), (i9 + 1), (j9 - 1))) else none) else none))
 else none))
 else none))
 else none))
 else none)))))
 else none))
 else none)
 else
 (bif (decide (j9 < i9)) then
 (if 0 ≤ a10 ∧ a10 < (data10.length : Int) then
 (Option.bind (data10[a10.toNat]?) fun e75 =>
 (if 0 ≤ j9 ∧ j9 < (data10.length : Int) then
 (Option.bind (data10[j9.toNat]?) fun e76 =>
 (if 0 ≤ j9 ∧ j9 < (data10.length : Int) then
 (Option.bind (data10[j9.toNat]?) fun e77 =>
 (if 0 ≤ a10 ∧ a10 < ((data10.set j9.toNat e75).length : Int) then
 (Option.bind ((data10.set j9.toNat e75)[a10.toNat]?) fun e78 =>
 (some (j9, false, ((data10.set j9.toNat e75).set a10.toNat e76))))
 else none))
 else none))
 else none))
 else none)
 else
 (if 0 ≤ j9 ∧ j9 < (data10.length : Int) then
 (Option.bind (data10[j9.toNat]?) fun e79 =>
 (if 0 ≤ i9 ∧ i9 < (data10.length : Int) then
 (Option.bind (data10[i9.toNat]?) fun e80 =>
 (if 0 ≤ i9 ∧ i9 < (data10.length : Int) then
 (Option.bind (data10[i9.toNat]?) fun e81 =>
 (if 0 ≤ j9 ∧ j9 < ((data10.set i9.toNat e79).length : Int) then
 (Option.bind ((data10.set i9.toNat e79)[j9.toNat]?) fun e82 =>
 (if fits (i9 + 1) then (if fits (j9 - 1) then (go7 (((data10.set i9.toNat e79).set j9.toNat e80), a10, (), (i9 + 1), (j9 - 1))) else none) else none))
 else none))
 else none))
 else none))
 else none)))) N (data9, a9, (), i8, j8)))))
 else none))
 else none)
 else
 (iter (fun go10 (g : Z7) =>
 match g with
 | (data11, a11, cmp11, i10, j10) =>
 (bif (decide (i10 ≤ j10)) then
 (if 0 ≤ j10 ∧ j10 < (data11.length : Int) then
 (Option.bind (data11[j10.toNat]?) fun e83 =>
 (if 0 ≤ a11 ∧ a11 < (data11.length : Int) then
 (Option.bind (data11[a11.toNat]?) fun e84 =>
 (Option.bind (je N e83.1 e83.2.1 e83.2.2 e84.1 e84.2.1 e84.2.2) fun r8 =>
 (bif (!(decide (r8 < 0))) then
 (if fits (j10 - 1) then (go10 (data11, a11, (), i10, (j10 - 1))) else none)
 else
 (bif (decide (j10 < i10)) then
 (if 0 ≤ a11 ∧ a11 < (data11.length : Int) then
 (Option.bind (data11[a11.toNat]?) fun e85 =>
 (if 0 ≤ j10 ∧ j10 < (data11.length : Int) then
 (Option.bind (data11[j10.toNat]?) fun e86 =>
 (if 0 ≤ j10 ∧ j10 < (data11.length : Int) then
 (Option.bind (data11[j10.toNat]?) fun e87 =>
 (if 0 ≤ a11 ∧ a11 < ((data11.set j10.toNat e85).length : Int) then
 (Option.bind ((data11.set j10.toNat e85)[a11.toNat]?) fun e88 =>
 (some (j10, false, ((data11.set j10.toNat e85).set a11.toNat e86))))
 else none))
 else none))
 else none))
 else none)
 else
 (if 0 ≤ j10 ∧ j10 < (data11.length : Int) then
 (Option.bind (data11[j10.toNat]?) fun e89 =>
 (if 0 ≤ i10 ∧ i10 < (data11.length : Int) then
 (Option.bind (data11[i10.toNat]?) fun e90 =>
 (if 0 ≤ i10 ∧ i10 < (data11.length : Int) then
 (Option.bind (data11[i10.toNat]?) fun e91 =>
 (if 0 ≤ j10 ∧ j10 < ((data11.set i10.toNat e89).length : Int) then
 (Option.bind ((data11.set i10.toNat e89)[j10.toNat]?) fun e92 =>
 (if fits (i10 + 1) then (if fits (j10 - 1) then (go7 (((data11.set i10.toNat e89).set j10.toNat e90), a11, (), (i10 + 1), (j10 - 1))) else none) else none))
 else none))
 else none))
 else none))
 else none)))))
 else none))
 else none)
 else
 (bif (decide (j10 < i10)) then
 (if 0 ≤ a11 ∧ a11 < (data11.length : Int) then
 (Option.bind (data11[a11.toNat]?) fun e93 =>
 (if 0 ≤ j10 ∧ j10 < (data11.length : Int) then
 (Option.bind (data11[j10.toNat]?) fun e94 =>
 (if 0 ≤ j10 ∧ j10 < (data11.length : Int) then
 (Option.bind (data11[j10.toNat]?) fun e95 =>
 (if 0 ≤ a11 ∧ a11 < ((data11.set j10.toNat e93).length : Int) then
 (Option.bind ((data11.set j10.toNat e93)[a11.toNat]?) fun e96 =>
 (some (j10, false, ((data11.set j10.toNat e93).set a11.toNat e94))))
 else none))
 else none))
 else none))
 else none)
 else
 (if 0 ≤ j10 ∧ j10 < (data11.length : Int) then
 (Option.bind (data11[j10.toNat]?) fun e97 =>
 (if 0 ≤ i10 ∧ i10 < (data11.length : Int) then
 (Option.bind (data11[i10.toNat]?) fun e98 =>
 (if 0 ≤ i10 ∧ i10 < (data11.length : Int) then
 (Option.bind (data11[i10.toNat]?) fun e99 =>
 (if 0 ≤ j10 ∧ j10 < ((data11.set i10.toNat e97).length : Int) then
 (Option.bind ((data11.set i10.toNat e97)[j10.toNat]?) fun e100 =>
 (if fits (i10 + 1) then (if fits (j10 - 1) then (go7 (((data11.set i10.toNat e97).set j10.toNat e98), a11, (), (i10 + 1), (j10 - 1))) else none) else none))
 else none))
 else none))
 else none))
 else none)))) N (data9, a9, (), i8, j8)))) N (data8, a8, (), i7, j7))) N (((data3.set i2.toNat e59).set j2.toNat e60), a3, (), (i2 + 1), (j2 - 1))) else none) else none))
 else none))
 else none))
 else none))
 else none)))) N (data2, a2, (), i, j)))))
 else none))
 else none)
 else
 (iter (fun go11 (g : Z7) =>
 match g with
 | (data12, a12, cmp12, i11, j11) =>
 (bif (decide (i11 ≤ j11)) then
 (if 0 ≤ j11 ∧ j11 < (data12.length : Int) then
 (Option.bind (data12[j11.toNat]?) fun e101 =>
 (if 0 ≤ a12 ∧ a12 < (data12.length : Int) then
 (Option.bind (data12[a12.toNat]?) fun e102 =>
 (Option.bind (je N e101.1 e101.2.1 e101.2.2 e102.1 e102.2.1 e102.2.2) fun r9 =>
 (bif (!(decide (r9 < 0))) then
 (if fits (j11 - 1) then (go11 (data12, a12, (), i11, (j11 - 1))) else none)
 else
 (bif (decide (j11 < i11)) then
 (if 0 ≤ a12 ∧ a12 < (data12.length : Int) then
 (Option.bind (data12[a12.toNat]?) fun e103 =>
 (if 0 ≤ j11 ∧ j11 < (data12.length : Int) then
 (Option.bind (data12[j11.toNat]?) fun e104 =>
 (if 0 ≤ j11 ∧ j11 < (data12.length : Int) then
 (Option.bind (data12[j11.toNat]?) fun e105 =>
 (if 0 ≤ a12 ∧ a12 < ((data12.set j11.toNat e103).length : Int) then
 (Option.bind ((data12.set j11.toNat e103)[a12.toNat]?) fun e106 =>
 (some (j11, true, ((data12.set j11.toNat e103).set a12.toNat e104))))
 else none))
 else none))
 else none))
 else none)
 else
 (if 0 ≤ j11 ∧ j11 < (data12.length : Int) then
 (Option.bind (data12[j11.toNat]?) fun e107 =>
 (if 0 ≤ i11 ∧ i11 < (data12.length : Int) then
 (Option.bind (data12[i11.toNat]?) fun e108 =>
 (if 0 ≤ i11 ∧ i11 < (data12.length : Int) then
 (Option.bind (data12[i11.toNat]?) fun e109 =>
 (if 0 ≤ j11 ∧ j11 < ((data12.set i11.toNat e107).length : Int) then
 (Option.bind ((data12.set i11.toNat e107)[j11.toNat]?) fun e110 =>
 (if fits (i11 + 1) then (if fits (j11 - 1) then (iter (fun go12 (g : Z7) =>
 match g with
 | (data13, a13, cmp13, i12, j12) =>
 (iter (fun go13 (g : Z7) =>
 match g with
 | (data14, a14, cmp14, i13, j13) =>
 (bif (decide (i13 ≤ j13)) then
 (if 0 ≤ i13 ∧ i13 < (data14.length : Int) then
 (Option.bind (data14[i13.toNat]?) fun e111 =>
 (if 0 ≤ a14 ∧ a14 < (data14.length : Int) then
 (Option.bind (data14[a14.toNat]?) fun e112 =>
 (Option.bind (je N e111.1 e111.2.1 e111.2.2 e112.1 e112.2.1 e112.2.2) fun r10 =>
 (bif (decide (r10 < 0)) then
 (if fits (i13 + 1) then (go13 (data14, a14, (), (i13 + 1), j13)) else none)
 else
 (iter (fun go14 (g : Z7) =>
 match g with
 | (data15, a15, cmp15, i14, j14) =>
 (bif (decide (i14 ≤ j14)) then
 (if 0 ≤ j14 ∧ j14 < (data15.length : Int) then
 (Option.bind (data15[j14.toNat]?) fun e113 =>
 (if 0 ≤ a15 ∧ a15 < (data15.length : Int) then
 (Option.bind (data15[a15.toNat]?) fun e114 =>
 (Option.bind (je N e113.1 e113.2.1 e113.2.2 e114.1 e114.2.1 e114.2.2) fun r11 =>
 (bif (!(decide (r11 < 0))) then
 (if fits (j14 - 1) then (go14 (data15, a15, (), i14, (j14 - 1))) else none)
 else
 (bif (decide (j14 < i14)) then
 (if 0 ≤ a15 ∧ a15 < (data15.length : Int) then
 (Option.bind (data15[a15.toNat]?) fun e115 =>
 (if 0 ≤ j14 ∧ j14 < (data15.length : Int) then
 (Option.bind (data15[j14.toNat]?) fun e116 =>
 (if 0 ≤ j14 ∧ j14 < (data15.length : Int) then
 (Option.bind (data15[j14.toNat]?) fun e117 =>
 (if 0 ≤ a15 ∧ a15 < ((data15.set j14.toNat e115).length : Int) then
 (Option.bind ((data15.set j14.toNat e115)[a15.toNat]?) fun e118 =>
 (some (j14, false, ((data15.set j14.toNat e115).set a15.toNat e116))))
 else none))
 else none))
 else none))
 else none)
 else
 (if 0 ≤ j14 ∧ j14 < (data15.length : Int) then
 (Option.bind (data15[j14.toNat]?) fun e119 =>
 (if 0 ≤ i14 ∧ i14 < (data15.length : Int) then
 (Option.bind (data15[i14.toNat]?) fun e120 =>
 (if 0 ≤ i14 ∧ i14 < (data15.length : Int) then
 (Option.bind (data15[i14.toNat]?) fun e121 =>
 (if 0 ≤ j14 ∧ j14 < ((data15.set i14.toNat e119).length : Int) then
 (Option.bind ((data15.set i14.toNat e119)[j14.toNat]?) fun e122 =>
 (if fits (i14 + 1) then (if fits (j14 - 1) then (go12 (((data15.set i14.toNat e119).set j14.toNat e120), a15, (), (i14 + 1), (j14 - 1))) else none) else none))
 else none))
 else none))
 else none))
 else none)))))
 else none))
 else none)
 else
 (bif (decide (j14 < i14)) then
 (if 0 ≤ a15 ∧ a15 < (data15.length : Int) then
 (Option.bind (data15[a15.toNat]?) fun e123 =>
 (if 0 ≤ j14 ∧ j14 < (data15.length : Int) then
 (Option.bind (data15[j14.toNat]?) fun e124 =>
 (if 0 ≤ j14 ∧ j14 < (data15.length : Int) then
 (Option.bind (data15[j14.toNat]?) fun e125 =>
 (if 0 ≤ a15 ∧ a15 < ((data15.set j14.toNat e123).length : Int) then
 (Option.bind ((data15.set j14.toNat e123)[a15.toNat]?) fun e126 =>
 (some (j14, false, ((data15.set j14.toNat e123).set a15.toNat e124))))
 else none))
 else none))
 else none))
 else none)
 else
 (if 0 ≤ j14 ∧ j14 < (data15.length : Int) then
 (Option.bind (data15[j14.toNat]?) fun e127 =>
 (if 0 ≤ i14 ∧ i14 < (data15.length : Int) then
 (Option.bind (data15[i14.toNat]?) fun e128 =>
 (if 0 ≤ i14 ∧ i14 < (data15.length : Int) then
 (Option.bind (data15[i14.toNat]?) fun e129 =>
 (if 0 ≤ j14 ∧ j14 < ((data15.set i14.toNat e127).length : Int) then
 (Option.bind ((data15.set i14.toNat e127)[j14.toNat]?) fun e130 =>
 (if fits (i14 + 1) then (if fits (j14 - 1) then (go12 (((data15.set i14.toNat e127).set j14.toNat e128), a15, (), (i14 + 1), (j14 - 1))) else none) else none))
 else none))
 else none))
 else none))
 else none)))) N (data14, a14, (), i13, j13)))))
 else none))
 else none)
 else
 (iter (fun go15 (g : Z7) =>
 match g with
 | (data16, a16, cmp16, i15, j15) =>
 (bif (decide (i15 ≤ j15)) then
 (if 0 ≤ j15 ∧ j15 < (data16.length : Int) then
 (Option.bind (data16[j15.toNat]?) fun e131 =>
 (if 0 ≤ a16 ∧ a16 < (data16.length : Int) then
 (Option.bind (data16[a16.toNat]?) fun e132 =>
 (Option.bind (je N e131.1 e131.2.1 e131.2.2 e132.1 e132.2.1 e132.2.2) fun r12 =>
 (bif (!(decide (r12 < 0))) then
 (if fits (j15 - 1) then (go15 (data16, a16, (), i15, (j15 - 1))) else none)
 else
 (bif (decide (j15 < i15)) then
 (if 0 ≤ a16 ∧ a16 < (data16.length : Int) then
 (Option.bind (data16[a16.toNat]?) fun e133 =>
 (if 0 ≤ j15 ∧ j15 < (data16.length : Int) then
 (Option.bind (data16[j15.toNat]?) fun e134 =>
 (if 0 ≤ j15 ∧ j15 < (data16.length : Int) then
 (Option.bind (data16[j15.toNat]?) fun e135 =>
 (if 0 ≤ a16 ∧ a16 < ((data16.set j15.toNat e133).length : Int) then
 (Option.bind ((data16.set j15.toNat e133)[a16.toNat]?) fun e136 =>
 (some (j15, false, ((data16.set j15.toNat e133).set a16.toNat e134))))
 else none))
 else none))
 else none))
 else none)
 else
 (if 0 ≤ j15 ∧ j15 < (data16.length : Int) then
 (Option.bind (data16[j15.toNat]?) fun e137 =>
 (if 0 ≤ i15 ∧ i15 < (data16.length : Int) then
 (Option.bind (data16[i15.toNat]?) fun e138 =>
 (if 0 ≤ i15 ∧ i15 < (data16.length : Int) then
 (Option.bind (data16[i15.toNat]?) fun e139 =>
 (if 0 ≤ j15 ∧ j15 < ((data16.set i15.toNat e137).length : Int) then
 (Option.bind ((data16.set i15.toNat e137)[j15.toNat]?) fun e140 =>
 (if fits (i15 + 1) then (if fits (j15 - 1) then (go12 (((data16.set i15.toNat e137).set j15.toNat e138), a16, (), (i15 + 1), (j15 - 1))) else none) else none))
 else none))
 else none))
 else none))
 else none)))))
 else none))
 else none)
 else
 (bif (decide (j15 < i15)) then
 (if 0 ≤ a16 ∧ a16 < (data16.length : Int) then
 (Option.bind (data16[a16.toNat]?) fun e141 =>
 (if 0 ≤ j15 ∧ j15 < (data16.length : Int) then
 (Option.bind (data16[j15.toNat]?) fun e142 =>
 (if 0 ≤ j15 ∧ j15 < (data16.length : Int) then
 (Option.bind (data16[j15.toNat]?) fun e143 =>
 (if 0 ≤ a16 ∧ a16 < ((data16.set j15.toNat e141).length : Int) then
 (Option.bind ((data16.set j15.toNat e141)[a16.toNat]?) fun e144 =>
 (some (j15, false, ((data16.set j15.toNat e141).set a16.toNat e142))))
 else none))
 else none))
 else none))
 else none)
 else
 (if 0 ≤ j15 ∧ j15 < (data16.length : Int) then
 (Option.bind (data16[j15.toNat]?) fun e145 =>
 (if 0 ≤ i15 ∧ i15 < (data16.length : Int) then
 (Option.bind (data16[i15.toNat]?) fun e146 =>
 (if 0 ≤ i15 ∧ i15 < (data16.length : Int) then
 (Option.bind (data16[i15.toNat]?) fun e147 =>
 (if 0 ≤ j15 ∧ j15 < ((data16.set i15.toNat e145).length : Int) then
 (Option.bind ((data16.set i15.toNat e145)[j15.toNat]?) fun e148 =>
 (if fits (i15 + 1) then (if fits (j15 - 1) then (go12 (((data16.set i15.toNat e145).set j15.toNat e146), a16, (), (i15 + 1), (j15 - 1))) else none) else none))
 else none))
 else none))
 else none))
 else none)))) N (data14, a14, (), i13, j13)))) N (data13, a13, (), i12, j12))) N (((data12.set i11.toNat e107).set j11.toNat e108), a12, (), (i11 + 1), (j11 - 1))) else none) else none))
 else none))
 else none))
 else none))
 else none)))))
 else none))
 else none)
 else
 (bif (decide (j11 < i11)) then
 (if 0 ≤ a12 ∧ a12 < (data12.length : Int) then
 (Option.bind (data12[a12.toNat]?) fun e149 =>
 (if 0 ≤ j11 ∧ j11 < (data12.length : Int) then
 (Option.bind (data12[j11.toNat]?) fun e150 =>
 (if 0 ≤ j11 ∧ j11 < (data12.length : Int) then
 (Option.bind (data12[j11.toNat]?) fun e151 =>
 (if 0 ≤ a12 ∧ a12 < ((data12.set j11.toNat e149).length : Int) then
 (Option.bind ((data12.set j11.toNat e149)[a12.toNat]?) fun e152 =>
 (some (j11, true, ((data12.set j11.toNat e149).set a12.toNat e150))))
 else none))
 else none))
 else none))
 else none)
 else
 (if 0 ≤ j11 ∧ j11 < (data12.length : Int) then
 (Option.bind (data12[j11.toNat]?) fun e153 =>
 (if 0 ≤ i11 ∧ i11 < (data12.length : Int) then
 (Option.bind (data12[i11.toNat]?) fun e154 =>
 (if 0 ≤ i11 ∧ i11 < (data12.length : Int) then
 (Option.bind (data12[i11.toNat]?) fun e155 =>
 (if 0 ≤ j11 ∧ j11 < ((data12.set i11.toNat e153).length : Int) then
 (Option.bind ((data12.set i11.toNat e153)[j11.toNat]?) fun e156 =>
 (if fits (i11 + 1) then (if fits (j11 - 1) then (iter (fun go16 (g : Z7) =>
 match g with
 | (data17, a17, cmp17, i16, j16) =>
 (iter (fun go17 (g : Z7) =>
 match g with
 | (data18, a18, cmp18, i17, j17) =>
 (bif (decide (i17 ≤ j17)) then
 (if 0 ≤ i17 ∧ i17 < (data18.length : Int) then
 (Option.bind (data18[i17.toNat]?) fun e157 =>
 (if 0 ≤ a18 ∧ a18 < (data18.length : Int) then
 (Option.bind (data18[a18.toNat]?) fun e158 =>
 (Option.bind (je N e157.1 e157.2.1 e157.2.2 e158.1 e158.2.1 e158.2.2) fun r13 =>
 (bif (decide (r13 < 0)) then
 (if fits (i17 + 1) then (go17 (data18, a18, (), (i17 + 1), j17)) else none)
 else
 (iter (fun go18 (g : Z7) =>
 match g with
 | (data19, a19, cmp19, i18, j18) =>
 (bif (decide (i18 ≤ j18)) then
 (if 0 ≤ j18 ∧ j18 < (data19.length : Int) then
 (Option.bind (data19[j18.toNat]?) fun e159 =>
 (if 0 ≤ a19 ∧ a19 < (data19.length : Int) then
 (Option.bind (data19[a19.toNat]?) fun e160 =>
 (Option.bind (je N e159.1 e159.2.1 e159.2.2 e160.1 e160.2.1 e160.2.2) fun r14 =>
 (bif (!(decide (r14 < 0))) then
 (if fits (j18 - 1) then (go18 (data19, a19, (), i18, (j18 - 1))) else none)
 else
 (bif (decide (j18 < i18)) then
 (if 0 ≤ a19 ∧ a19 < (data19.length : Int) then
 (Option.bind (data19[a19.toNat]?) fun e161 =>
 (if 0 ≤ j18 ∧ j18 < (data19.length : Int) then
 (Option.bind (data19[j18.toNat]?) fun e162 =>
 (if 0 ≤ j18 ∧ j18 < (data19.length : Int) then
 (Option.bind (data19[j18.toNat]?) fun e163 =>
 (if 0 ≤ a19 ∧ a19 < ((data19.set j18.toNat e161).length : Int) then
 (Option.bind ((data19.set j18.toNat e161)[a19.toNat]?) fun e164 =>
 (some (j18, false, ((data19.set j18.toNat e161).set a19.toNat e162))))
 else none))
 else none))
 else none))
 else none)
 else
 (if 0 ≤ j18 ∧ j18 < (data19.length : Int) then
 (Option.bind (data19[j18.toNat]?) fun e165 =>
 (if 0 ≤ i18 ∧ i18 < (data19.length : Int) then
 (Option.bind (data19[i18.toNat]?) fun e166 =>
 (if 0 ≤ i18 ∧ i18 < (data19.length : Int) then
 (Option.bind (data19[i18.toNat]?) fun e167 =>
 (if 0 ≤ j18 ∧ j18 < ((data19.set i18.toNat e165).length : Int) then
 (Option.bind ((data19.set i18.toNat e165)[j18.toNat]?) fun e168 =>
 (if fits (i18 + 1) then (if fits (j18 - 1) then (go16 (((data19.set i18.toNat e165).set j18.toNat e166), a19, (), (i18 + 1), (j18 - 1))) else none) else none))
 else none))
 else none))
 else none))
 else none)))))
 else none))
 else none)
 else
 (bif (decide (j18 < i18)) then
 (if 0 ≤ a19 ∧ a19 < (data19.length : Int) then
 (Option.bind (data19[a19.toNat]?) fun e169 =>
 (if 0 ≤ j18 ∧ j18 < (data19.length : Int) then
 (Option.bind (data19[j18.toNat]?) fun e170 =>
 (if 0 ≤ j18 ∧ j18 < (data19.length : Int) then
 (Option.bind (data19[j18.toNat]?) fun e171 =>
 (if 0 ≤ a19 ∧ a19 < ((data19.set j18.toNat e169).length : Int) then
 (Option.bind ((data19.set j18.toNat e169)[a19.toNat]?) fun e172 =>
 (some (j18, false, ((data19.set j18.toNat e169).set a19.toNat e170))))
 else none))
 else none))
 else none))
 else none)
 else
 (if 0 ≤ j18 ∧ j18 < (data19.length : Int) then
 (Option.bind (data19[j18.toNat]?) fun e173 =>
 (if 0 ≤ i18 ∧ i18 < (data19.length : Int) then
 (Option.bind (data19[i18.toNat]?) fun e174 =>
 (if 0 ≤ i18 ∧ i18 < (data19.length : Int) then
 (Option.bind (data19[i18.toNat]?) fun e175 =>
 (if 0 ≤ j18 ∧ j18 < ((data19.set i18.toNat e173).length : Int) then
 (Option.bind ((data19.set i18.toNat e173)[j18.toNat]?) fun e176 =>
 (if fits (i18 + 1) then (if fits (j18 - 1) then (go16 (((data19.set i18.toNat e173).set j18.toNat e174), a19, (), (i18 + 1), (j18 - 1))) else none) else none))
 else none))
 else none))
 else none))
 else none)))) N (data18, a18, (), i17, j17)))))
 else none))
 else none)
 else
 (iter (fun go19 (g : Z7) =>
 match g with
 | (data20, a20, cmp20, i19, j19) =>
 (bif (decide (i19 ≤ j19)) then
 (if 0 ≤ j19 ∧ j19 < (data20.length : Int) then
 (Option.bind (data20[j19.toNat]?) fun e177 =>
 (if 0 ≤ a20 ∧ a20 < (data20.length : Int) then
 (Option.bind (data20[a20.toNat]?) fun e178 =>
 (Option.bind (je N e177.1 e177.2.1 e177.2.2 e178.1 e178.2.1 e178.2.2) fun r15 =>
 (bif (!(decide (r15 < 0))) then
 (if fits (j19 - 1) then (go19 (data20, a20, (), i19, (j19 - 1))) else none)
 else
 (bif (decide (j19 < i19)) then
 (if 0 ≤ a20 ∧ a20 < (data20.length : Int) then
 (Option.bind (data20[a20.toNat]?) fun e179 =>
 (if 0 ≤ j19 ∧ j19 < (data20.length : Int) then
 (Option.bind (data20[j19.toNat]?) fun e180 =>
 (if 0 ≤ j19 ∧ j19 < (data20.length : Int) then
 (Option.bind (data20[j19.toNat]?) fun e181 =>
 (if 0 ≤ a20 ∧ a20 < ((data20.set j19.toNat e179).length : Int) then
 (Option.bind ((data20.set j19.toNat e179)[a20.toNat]?) fun e182 =>
 (some (j19, false, ((data20.set j19.toNat e179).set a20.toNat e180))))
 else none))
 else none))
 else none))
 else none)
 else
 (if 0 ≤ j19 ∧ j19 < (data20.length : Int) then
 (Option.bind (data20[j19.toNat]?) fun e183 =>
 (if 0 ≤ i19 ∧ i19 < (data20.length : Int) then
 (Option.bind (data20[i19.toNat]?) fun e184 =>
 (if 0 ≤ i19 ∧ i19 < (data20.length : Int) then
 (Option.bind (data20[i19.toNat]?) fun e185 =>
 (if 0 ≤ j19 ∧ j19 < ((data20.set i19.toNat e183).length : Int) then
 (Option.bind ((data20.set i19.toNat e183)[j19.toNat]?) fun e186 =>
 (if fits (i19 + 1) then (if fits (j19 - 1) then (go16 (((data20.set i19.toNat e183).set j19.toNat e184), a20, (), (i19 + 1), (j19 - 1))) else none) else none))
 else none))
 else none))
 else none))
 else none)))))
 else none))
 else none)
 else
 (bif (decide (j19 < i19)) then
 (if 0 ≤ a20 ∧ a20 < (data20.length : Int) then
 (Option.bind (data20[a20.toNat]?) fun e187 =>
 (if 0 ≤ j19 ∧ j19 < (data20.length : Int) then
 (Option.bind (data20[j19.toNat]?) fun e188 =>
 (if 0 ≤ j19 ∧ j19 < (data20.length : Int) then
 (Option.bind (data20[j19.toNat]?) fun e189 =>
 (if 0 ≤ a20 ∧ a20 < ((data20.set j19.toNat e187).length : Int) then
 (Option.bind ((data20.set j19.toNat e187)[a20.toNat]?) fun e190 =>
 (some (j19, false, ((data20.set j19.toNat e187).set a20.toNat e188))))
 else none))
 else none))
 else none))
 else none)
 else
 (if 0 ≤ j19 ∧ j19 < (data20.length : Int) then
 (Option.bind (data20[j19.toNat]?) fun e191 =>
 (if 0 ≤ i19 ∧ i19 < (data20.length : Int) then
 (Option.bind (data20[i19.toNat]?) fun e192 =>
 (if 0 ≤ i19 ∧ i19 < (data20.length : Int) then
 (Option.bind (data20[i19.toNat]?) fun e193 =>
 (if 0 ≤ j19 ∧ j19 < ((data20.set i19.toNat e191).length : Int) then
 (Option.bind ((data20.set i19.toNat e191)[j19.toNat]?) fun e194 =>
 (if fits (i19 + 1) then (if fits (j19 - 1) then (go16 (((data20.set i19.toNat e191).set j19.toNat e192), a20, (), (i19 + 1), (j19 - 1))) else none) else none))
 else none))
 else none))
 else none))
 else none)))) N (data18, a18, (), i17, j17)))) N (data17, a17, (), i16, j16))) N (((data12.set i11.toNat e153).set j11.toNat e154), a12, (), (i11 + 1), (j11 - 1))) else none) else none))
 else none))
 else none))
 else none))
 else none)))) N (data2, a2, (), i, j)))) N (((data.set a.toNat e).set pivot.toNat e2), a, (), (a + 1), (b - 1))) else none) else none))
 else none))
 else none))
 else none))
 else none)
def jfy (N : Nat) : Model := ⟨⟨[.mtk 800000 Y6 91 false, .pv (.int .i64), .pv (.int .i64), .pv (.int .i64), .clo 104 []], []⟩, ⟨[.tup [.pv (.int .i64), .pv .bool], .mtk 800000 Y6 91 false], []⟩, fun a => jcT N a.1 a.2.1 a.2.2.1 a.2.2.2.1 a.2.2.2.2⟩
theorem jrO (N : Nat) : ModelOk Tryz.prog 202 (jfy N) :=
 mO (fC (jaf N) ja) Tryz.func202 rfl N (.seq .no (.seq .no (.seq .no (.seq (.block (.loop jru .no)) (.seq (.block (.loop jqO .no)) (.seq .no (.seq .no (.seq .no (.seq .no (.seq (.block (.loop jo9 (.block (.seq (.block (.loop jsG .no)) (.seq (.block (.loop jkE .no)) .no))))) .no)))))))))) (jfy N) (rs := [800000])
end Go.Proofs.YtcjbjmbialienaaGreatDoor
