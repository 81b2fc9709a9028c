import Derived.Test.YtcjbjmbialienaaGreatKTab
set_option linter.unusedVariables false
set_option linter.unusedSimpArgs false
namespace Go.Proofs.YtcjbjmbialienaaGreat
open Go.RowKit
def dz : Nat → List VS → List VS
  | 0, l => l
  | n + 1, l => .dead :: dz n l
abbrev Y16 : Tp := .sl (.int .i64)
abbrev Y15 : Tp := .pair .str .str
abbrev Y14 : Tp := .pair (.sl .str) .str
abbrev Y13 : Tp := .sl (.pair .str .str)
abbrev Y12 : Tp := .pair .str (.int .i64)
abbrev Y11 : Tp := .sl (.pair (.sl .str) .str)
abbrev Y10 : Tp := .sl (.pair .str (.int .i64))
abbrev Y9 : Tp := .pair (.int .i64) (.sl (.int .i64))
abbrev Y8 : Tp := .sl (.pair (.int .i64) (.sl (.int .i64)))
abbrev Y4 : Tp := .pair .str (.pair (.int .i64) (.pair (.int .i64) (.int .i64)))
abbrev Y3 : Tp := .pair .str (.pair .str (.sl (.pair (.int .i64) (.sl (.int .i64)))))
abbrev Y2 : Tp := .sl (.pair .str (.pair .str (.sl (.pair (.int .i64) (.sl (.int .i64))))))
abbrev Y1 : Tp := .pair (.int .i64) (.pair (.sl (.pair .str .str)) (.sl (.pair .str (.int .i64))))
abbrev Y0 : Tp := .sl (.pair (.int .i64) (.pair (.sl (.pair .str .str)) (.sl (.pair .str (.int .i64)))))
/-! loop.example/fossick/spec.l30Open -/
def s_l30Open_arg : Sh := ⟨[.pv (.sl (.int .u8))], []⟩
def s_l30Open_ret : Sh := ⟨[.box 10 0], [(10, false, [.pv (.sl (.int .u8)), .pv (.int .i64)])]⟩
def s_l30Open_h : Hint := .no
def s_l30Open_m (N : Nat) (code : List Int) : Option ((List Int) × Int) :=
 (bif (decide ((2000 : Int) < (code.length : Int))) then
 (Option.bind (cut code 0 2000) fun y =>
 (some (y, 0)))
 else
 (some (code, 0)))
def s_l30Open_M (N : Nat) : Model := ⟨s_l30Open_arg, s_l30Open_ret, fun a => s_l30Open_m N a⟩
set_option maxRecDepth 1000000 in
theorem s_l30Open_ok (N : Nat) : ModelOk Tryz.prog 21 (s_l30Open_M N) :=
  modelOk_of (E := mkEnv [] [] []) (mkEnv_ok fnsOk_nil _ _) Tryz.func21 (by kernel_rfl) rfl N s_l30Open_h (s_l30Open_M N) (by kernel_rfl) (by kernel_rfl) (fun a => by kernel_rfl)
/-! (*loop.example/fossick/spec.l30Rd).pick -/
def s_l30Rd_pick_arg : Sh := ⟨[.box 900000 0, .pv (.int .i64)], [(900000, false, [.pv (.sl (.int .u8)), .pv (.int .i64)])]⟩
def s_l30Rd_pick_ret : Sh := ⟨[.pv (.int .i64)], [(900000, false, [.pv (.sl (.int .u8)), .pv (.int .i64)])]⟩
def s_l30Rd_pick_h : Hint := .no
def s_l30Rd_pick_m (N : Nat) (n : Int) (b : List Int) (b2 : Int) : Option (Int × (List Int) × Int) :=
 (if fits (b2 + 1) then (bif (decide (n < 1)) then
 (some (0, b, (b2 + 1)))
 else
 (bif (decide ((b.length : Int) = 0)) then
 (some (0, b, (b2 + 1)))
 else
 (if fits ((b2 + 1) - 1) then (bif (decide (((b2 + 1) - 1) < (b.length : Int))) then
 (Option.bind (idx b ((b2 + 1) - 1)) fun e =>
 (if n ≠ 0 then
 (some (((IntKind.i64.wrap e).tmod n), b, (b2 + 1)))
 else none))
 else
 (if (b.length : Int) ≠ 0 then
 (Option.bind (idx b (((b2 + 1) - 1).tmod (b.length : Int))) fun e2 =>
 (if fits ((IntKind.i64.wrap e2) * 131) then (if fits (((b2 + 1) - 1) * 7) then (if fits ((((b2 + 1) - 1) * 7) + 3) then (if (b.length : Int) ≠ 0 then
 (Option.bind (idx b (((((b2 + 1) - 1) * 7) + 3).tmod (b.length : Int))) fun e3 =>
 (if fits ((IntKind.i64.wrap e3) * 1117) then (if fits (((IntKind.i64.wrap e2) * 131) + ((IntKind.i64.wrap e3) * 1117)) then (if fits (((b2 + 1) - 1) * 29) then (if fits ((((IntKind.i64.wrap e2) * 131) + ((IntKind.i64.wrap e3) * 1117)) + (((b2 + 1) - 1) * 29)) then (if (b.length : Int) ≠ 0 then
 (if fits (((b2 + 1) - 1).tdiv (b.length : Int)) then (if fits ((((b2 + 1) - 1).tdiv (b.length : Int)) * 53) then (if fits (((((IntKind.i64.wrap e2) * 131) + ((IntKind.i64.wrap e3) * 1117)) + (((b2 + 1) - 1) * 29)) + ((((b2 + 1) - 1).tdiv (b.length : Int)) * 53)) then (if 64 ≠ 0 then
 (if fits ((((((IntKind.i64.wrap e2) * 131) + ((IntKind.i64.wrap e3) * 1117)) + (((b2 + 1) - 1) * 29)) + ((((b2 + 1) - 1).tdiv (b.length : Int)) * 53)).tdiv 64) then (if n ≠ 0 then
 (some (((bitsI .xor .i64 (((((IntKind.i64.wrap e2) * 131) + ((IntKind.i64.wrap e3) * 1117)) + (((b2 + 1) - 1) * 29)) + ((((b2 + 1) - 1).tdiv (b.length : Int)) * 53)) ((((((IntKind.i64.wrap e2) * 131) + ((IntKind.i64.wrap e3) * 1117)) + (((b2 + 1) - 1) * 29)) + ((((b2 + 1) - 1).tdiv (b.length : Int)) * 53)).tdiv 64)).tmod n), b, (b2 + 1)))
 else none) else none)
 else none) else none) else none) else none)
 else none) else none) else none) else none) else none))
 else none) else none) else none) else none))
 else none)) else none))) else none)
def s_l30Rd_pick_M (N : Nat) : Model := ⟨s_l30Rd_pick_arg, s_l30Rd_pick_ret, fun a => s_l30Rd_pick_m N a.1 a.2.1 a.2.2⟩
set_option maxRecDepth 1000000 in
theorem s_l30Rd_pick_ok (N : Nat) : ModelOk Tryz.prog 52 (s_l30Rd_pick_M N) :=
  modelOk_of (E := mkEnv [] [] [900000]) (mkEnv_ok fnsOk_nil _ _) Tryz.func52 (by kernel_rfl) rfl N s_l30Rd_pick_h (s_l30Rd_pick_M N) (by kernel_rfl) (by kernel_rfl) (fun a => by kernel_rfl)
/-! loop.example/fossick/spec.l30Conf -/
def s_l30Conf_arg : Sh := ⟨[.box 900000 0], [(900000, false, [.pv (.sl (.int .u8)), .pv (.int .i64)])]⟩
def s_l30Conf_ret : Sh := ⟨[.agg [.own 1 .str 9 true, .own 2 (.pair (.sl .str) .str) 98 true]], [(900000, false, [.pv (.sl (.int .u8)), .pv (.int .i64)])]⟩
def s_l30Conf_s1 : Sh := ⟨.box 900000 0 :: .dead :: .box 2 0 :: .box 3 0 :: dz 30 [], [(2, false, [.nils, .nils]), (3, false, [.own 13 .str 9 true, .nils]), (900000, false, [.pv (.sl (.int .u8)), .pv (.int .i64)])]⟩
def s_l30Conf_s2 : Sh := ⟨.box 900000 0 :: .dead :: .box 2 0 :: .box 3 0 :: dz 30 [], [(2, false, [.nils, .nils]), (3, false, [.own 8 .str 9 true, .nils]), (900000, false, [.pv (.sl (.int .u8)), .pv (.int .i64)])]⟩
def s_l30Conf_h : Hint := (.seq .no (.seq .no (.meet s_l30Conf_s2 .no (.meet s_l30Conf_s1 .no .no))))
def s_l30Conf_m (N : Nat) (b : List Int) (b2 : Int) : Option ((List (List UInt8)) × (List ((List (List UInt8)) × (List UInt8))) × (List Int) × Int) :=
 (meet (fun (g : (List (List UInt8)) × (List Int) × Int) =>
 match g with
 | (c, b3, b4) =>
 (meet (fun (g : (List (List UInt8)) × (List Int) × Int) =>
 match g with
 | (c2, b5, b6) =>
 (Option.bind (s_l30Rd_pick_m N 4 b5 b6) fun r3 =>
 (bif (decide (r3.1 = 0)) then
 (some (c2, ([(([([110, 101, 119] : List UInt8), ([121, 111, 114, 107] : List UInt8)] : List (List UInt8)), ([110, 121] : List UInt8))] : List ((List (List UInt8)) × (List UInt8))), r3.2.1, r3.2.2))
 else
 (bif (decide (r3.1 = 1)) then
 (some (c2, ([(([([98, 105, 103] : List UInt8)] : List (List UInt8)), ([108, 97, 114, 103] : List UInt8)), (([([98, 105, 103] : List UInt8), ([114, 101, 100] : List UInt8), ([102, 111, 120] : List UInt8)] : List (List UInt8)), ([102, 111, 120] : List UInt8)), (([([110, 101, 119] : List UInt8), ([121, 111, 114, 107] : List UInt8)] : List (List UInt8)), ([110, 121] : List UInt8))] : List ((List (List UInt8)) × (List UInt8))), r3.2.1, r3.2.2))
 else
 (some (c2, ([] : List ((List (List UInt8)) × (List UInt8))), r3.2.1, r3.2.2)))))) fun J2 =>
 (Option.bind (s_l30Rd_pick_m N 4 b3 b4) fun r2 =>
 (bif (decide (r2.1 = 0)) then
 (J2 (([([100, 111, 103] : List UInt8), ([116, 104, 101] : List UInt8)] : List (List UInt8)), r2.2.1, r2.2.2))
 else
 (J2 (c, r2.2.1, r2.2.2)))))) fun J =>
 (Option.bind (s_l30Rd_pick_m N 3 b b2) fun r =>
 (bif (decide ((0 : Int) < r.1)) then
 (J (([([116, 104, 101] : List UInt8)] : List (List UInt8)), r.2.1, r.2.2))
 else
 (J (([] : List (List UInt8)), r.2.1, r.2.2)))))
def s_l30Conf_M (N : Nat) : Model := ⟨s_l30Conf_arg, s_l30Conf_ret, fun a => s_l30Conf_m N a.1 a.2⟩
set_option maxRecDepth 1000000 in
theorem s_l30Conf_ok (N : Nat) : ModelOk Tryz.prog 83 (s_l30Conf_M N) :=
  modelOk_of (E := mkEnv [(52, s_l30Rd_pick_M N)] [] [900000]) (mkEnv_ok (fnsOk_cons (s_l30Rd_pick_ok N) fnsOk_nil) _ _) Tryz.func83 (by kernel_rfl) rfl N s_l30Conf_h (s_l30Conf_M N) (by kernel_rfl) (by kernel_rfl) (fun a => by kernel_rfl)
/-! (*loop.example/fossick/spec.l30Rd).of -/
def s_l30Rd_of_arg : Sh := ⟨[.box 900000 0, .pv (.sl .str)], [(900000, false, [.pv (.sl (.int .u8)), .pv (.int .i64)])]⟩
def s_l30Rd_of_ret : Sh := ⟨[.pv .str], [(900000, false, [.pv (.sl (.int .u8)), .pv (.int .i64)])]⟩
def s_l30Rd_of_h : Hint := .no
def s_l30Rd_of_m (N : Nat) (list : List (List UInt8)) (b : List Int) (b2 : Int) : Option ((List UInt8) × (List Int) × Int) :=
 (Option.bind (s_l30Rd_pick_m N (list.length : Int) b b2) fun r =>
 (Option.bind (idx list r.1) fun e =>
 (some (e, r.2.1, r.2.2))))
def s_l30Rd_of_M (N : Nat) : Model := ⟨s_l30Rd_of_arg, s_l30Rd_of_ret, fun a => s_l30Rd_of_m N a.1 a.2.1 a.2.2⟩
set_option maxRecDepth 1000000 in
theorem s_l30Rd_of_ok (N : Nat) : ModelOk Tryz.prog 24 (s_l30Rd_of_M N) :=
  modelOk_of (E := mkEnv [(52, s_l30Rd_pick_M N)] [] [900000]) (mkEnv_ok (fnsOk_cons (s_l30Rd_pick_ok N) fnsOk_nil) _ _) Tryz.func24 (by kernel_rfl) rfl N s_l30Rd_of_h (s_l30Rd_of_M N) (by kernel_rfl) (by kernel_rfl) (fun a => by kernel_rfl)
/-! loop.example/fossick/spec.l30Raw -/
def s_l30Raw_arg : Sh := ⟨[.box 900000 0], [(900000, false, [.pv (.sl (.int .u8)), .pv (.int .i64)])]⟩
def s_l30Raw_ret : Sh := ⟨[.pv .str], [(900000, false, [.pv (.sl (.int .u8)), .pv (.int .i64)])]⟩
def s_l30Raw_h : Hint := .no
def s_l30Raw_m (N : Nat) (b : List Int) (b2 : Int) : Option ((List UInt8) × (List Int) × Int) :=
 (Option.bind (s_l30Rd_of_m N ([([99, 97, 116] : List UInt8), ([67, 97, 116, 115] : List UInt8), ([100, 111, 103] : List UInt8), ([100, 111, 103, 115] : List UInt8), ([114, 117, 110] : List UInt8), ([82, 85, 78, 78, 73, 78, 71] : List UInt8), ([116, 104, 101] : List UInt8), ([114, 101, 100] : List UInt8), ([98, 105, 103] : List UInt8), ([110, 101, 119, 32, 121, 111, 114, 107] : List UInt8), ([78, 101, 119, 32, 32, 89, 111, 114, 107] : List UInt8), ([110, 121] : List UInt8), ([102, 111, 120] : List UInt8), ([112, 97, 115, 115, 101, 100] : List UInt8), ([120, 49] : List UInt8), ([97, 118, 101, 114, 121, 118, 101, 114, 121, 108, 111, 110, 103, 119, 111, 114, 100] : List UInt8)] : List (List UInt8)) b b2) fun r =>
 (some (r.1, r.2.1, r.2.2)))
def s_l30Raw_M (N : Nat) : Model := ⟨s_l30Raw_arg, s_l30Raw_ret, fun a => s_l30Raw_m N a.1 a.2⟩
set_option maxRecDepth 1000000 in
theorem s_l30Raw_ok (N : Nat) : ModelOk Tryz.prog 150 (s_l30Raw_M N) :=
  modelOk_of (E := mkEnv [(24, s_l30Rd_of_M N)] [] [900000]) (mkEnv_ok (fnsOk_cons (s_l30Rd_of_ok N) fnsOk_nil) _ _) Tryz.func150 (by kernel_rfl) rfl N s_l30Raw_h (s_l30Raw_M N) (by kernel_rfl) (by kernel_rfl) (fun a => by kernel_rfl)
/-! loop.example/fossick/spec.l30Text -/
def s_l30Text_arg : Sh := ⟨[.box 900000 0], [(900000, false, [.pv (.sl (.int .u8)), .pv (.int .i64)])]⟩
def s_l30Text_ret : Sh := ⟨[.pv .str], [(900000, false, [.pv (.sl (.int .u8)), .pv (.int .i64)])]⟩
def s_l30Text_s1 : Sh := ⟨.box 900000 0 :: .dead :: .dead :: .pv .str :: .pv (.int .i64) :: dz 15 [], [(900000, false, [.pv (.sl (.int .u8)), .pv (.int .i64)])]⟩
def s_l30Text_h : Hint := (.seq .no (.seq .no (.seq (.seq .no (.block (.loop s_l30Text_s1 .no))) .no)))
def s_l30Text_m (N : Nat) (b : List Int) (b2 : Int) : Option ((List UInt8) × (List Int) × Int) :=
 (Option.bind (s_l30Rd_pick_m N 9 b b2) fun r =>
 (iter (fun go (g : (List UInt8) × Int × (List Int) × Int) =>
 match g with
 | (s, n, b3, b4) =>
 (bif (decide ((0 : Int) < n)) then
 (Option.bind (s_l30Raw_m N b3 b4) fun r2 =>
 (if s.length + r2.1.length ≤ 9223372036854775807 then
 (Option.bind (s_l30Rd_of_m N ([([32] : List UInt8), ([32] : List UInt8), ([44, 32] : List UInt8), ([45] : List UInt8), ([46, 32] : List UInt8)] : List (List UInt8)) r2.2.1 r2.2.2) fun r3 =>
 (if (s ++ r2.1).length + r3.1.length ≤ 9223372036854775807 then
 (if fits (n - 1) then (go (((s ++ r2.1) ++ r3.1), (n - 1), r3.2.1, r3.2.2)) else none)
 else none))
 else none))
 else
 (some (s, b3, b4)))) N (([] : List UInt8), r.1, r.2.1, r.2.2)))
def s_l30Text_M (N : Nat) : Model := ⟨s_l30Text_arg, s_l30Text_ret, fun a => s_l30Text_m N a.1 a.2⟩
set_option maxRecDepth 1000000 in
theorem s_l30Text_ok (N : Nat) : ModelOk Tryz.prog 139 (s_l30Text_M N) :=
  modelOk_of (E := mkEnv [(52, s_l30Rd_pick_M N), (150, s_l30Raw_M N), (24, s_l30Rd_of_M N)] [] [900000]) (mkEnv_ok (fnsOk_cons (s_l30Rd_pick_ok N) (fnsOk_cons (s_l30Raw_ok N) (fnsOk_cons (s_l30Rd_of_ok N) fnsOk_nil))) _ _) Tryz.func139 (by kernel_rfl) rfl N s_l30Text_h (s_l30Text_M N) (by kernel_rfl) (by kernel_rfl) (fun a => by kernel_rfl)
/-! loop.example/fossick/spec.l30Doc -/
def s_l30Doc_arg : Sh := ⟨[.box 900000 0, .pv (.int .i64)], [(900000, false, [.pv (.sl (.int .u8)), .pv (.int .i64)])]⟩
def s_l30Doc_ret : Sh := ⟨[.agg [.pv (.int .i64), .own 1 (.pair .str .str) 106 true, .own 2 (.pair .str (.int .i64)) 143 true]], [(900000, false, [.pv (.sl (.int .u8)), .pv (.int .i64)])]⟩
def s_l30Doc_s1 : Sh := ⟨.box 900000 0 :: dz 3 (.box 4 0 :: .box 5 0 :: dz 48 []), [(4, false, [.pv (.int .i64), .nils, .nils]), (5, false, [.pv (.int .i64), .own 28 Y15 106 true, .own 39 Y12 143 true]), (900000, false, [.pv (.sl (.int .u8)), .pv (.int .i64)])]⟩
def s_l30Doc_s2 : Sh := ⟨.box 900000 0 :: dz 3 (.box 4 0 :: .box 5 0 :: dz 48 []), [(4, false, [.pv (.int .i64), .nils, .nils]), (5, false, [.pv (.int .i64), .own 28 Y15 106 true, .nils]), (900000, false, [.pv (.sl (.int .u8)), .pv (.int .i64)])]⟩
def s_l30Doc_s3 : Sh := ⟨.box 900000 0 :: dz 3 (.box 4 0 :: .box 5 0 :: dz 48 []), [(4, false, [.pv (.int .i64), .nils, .nils]), (5, false, [.pv (.int .i64), .own 17 Y15 106 true, .nils]), (900000, false, [.pv (.sl (.int .u8)), .pv (.int .i64)])]⟩
def s_l30Doc_h : Hint := (.seq .no (.seq .no (.meet s_l30Doc_s3 .no (.meet s_l30Doc_s2 .no (.meet s_l30Doc_s1 .no .no)))))
def s_l30Doc_m (N : Nat) (id : Int) (b : List Int) (b2 : Int) : Option (Int × (List ((List UInt8) × (List UInt8))) × (List ((List UInt8) × Int)) × (List Int) × Int) :=
 (meet (fun (g : Int × Int × (List ((List UInt8) × (List UInt8))) × (List Int) × Int) =>
 match g with
 | (b3, d, d2, b4, b5) =>
 (meet (fun (g : Int × Int × (List ((List UInt8) × (List UInt8))) × (List Int) × Int) =>
 match g with
 | (b6, d3, d4, b7, b8) =>
 (meet (fun (g : Int × Int × (List ((List UInt8) × (List UInt8))) × (List ((List UInt8) × Int)) × (List Int) × Int) =>
 match g with
 | (b9, d5, d6, d7, b10, b11) =>
 (Option.bind (s_l30Rd_pick_m N 3 b10 b11) fun r7 =>
 (bif (decide (r7.1 = 0)) then
 (Option.bind (s_l30Rd_pick_m N 30 r7.2.1 r7.2.2) fun r8 =>
 (if fits (2000 + r8.1) then (if room d7.length ([(([121, 101, 97, 114] : List UInt8), (2000 + r8.1))] : List ((List UInt8) × Int)).length 24 then
 (some (d5, d6, (d7 ++ ([(([121, 101, 97, 114] : List UInt8), (2000 + r8.1))] : List ((List UInt8) × Int))), r8.2.1, r8.2.2))
 else none) else none))
 else
 (some (d5, d6, d7, r7.2.1, r7.2.2))))) fun J3 =>
 (Option.bind (s_l30Rd_pick_m N 3 b7 b8) fun r5 =>
 (bif (decide ((0 : Int) < r5.1)) then
 (Option.bind (s_l30Rd_pick_m N 4 r5.2.1 r5.2.2) fun r6 =>
 (if room ([] : List ((List UInt8) × Int)).length ([(([114, 97, 116, 101] : List UInt8), r6.1)] : List ((List UInt8) × Int)).length 24 then
 (J3 (b6, d3, d4, (([] : List ((List UInt8) × Int)) ++ ([(([114, 97, 116, 101] : List UInt8), r6.1)] : List ((List UInt8) × Int))), r6.2.1, r6.2.2))
 else none))
 else
 (J3 (b6, d3, d4, ([] : List ((List UInt8) × Int)), r5.2.1, r5.2.2)))))) fun J2 =>
 (Option.bind (s_l30Rd_pick_m N 3 b4 b5) fun r3 =>
 (bif (decide (r3.1 = 0)) then
 (Option.bind (s_l30Text_m N r3.2.1 r3.2.2) fun r4 =>
 (if room d2.length ([(([116, 105, 116, 108, 101] : List UInt8), r4.1)] : List ((List UInt8) × (List UInt8))).length 32 then
 (J2 (b3, d, (d2 ++ ([(([116, 105, 116, 108, 101] : List UInt8), r4.1)] : List ((List UInt8) × (List UInt8)))), r4.2.1, r4.2.2))
 else none))
 else
 (J2 (b3, d, d2, r3.2.1, r3.2.2)))))) fun J =>
 (Option.bind (s_l30Rd_pick_m N 6 b b2) fun r =>
 (bif (decide ((0 : Int) < r.1)) then
 (Option.bind (s_l30Text_m N r.2.1 r.2.2) fun r2 =>
 (if room ([] : List ((List UInt8) × (List UInt8))).length ([(([98, 111, 100, 121] : List UInt8), r2.1)] : List ((List UInt8) × (List UInt8))).length 32 then
 (J (0, id, (([] : List ((List UInt8) × (List UInt8))) ++ ([(([98, 111, 100, 121] : List UInt8), r2.1)] : List ((List UInt8) × (List UInt8)))), r2.2.1, r2.2.2))
 else none))
 else
 (J (0, id, ([] : List ((List UInt8) × (List UInt8))), r.2.1, r.2.2)))))
def s_l30Doc_M (N : Nat) : Model := ⟨s_l30Doc_arg, s_l30Doc_ret, fun a => s_l30Doc_m N a.1 a.2.1 a.2.2⟩
set_option maxRecDepth 1000000 in
theorem s_l30Doc_ok (N : Nat) : ModelOk Tryz.prog 113 (s_l30Doc_M N) :=
  modelOk_of (E := mkEnv [(52, s_l30Rd_pick_M N), (139, s_l30Text_M N)] [] [900000]) (mkEnv_ok (fnsOk_cons (s_l30Rd_pick_ok N) (fnsOk_cons (s_l30Text_ok N) fnsOk_nil)) _ _) Tryz.func113 (by kernel_rfl) rfl N s_l30Doc_h (s_l30Doc_M N) (by kernel_rfl) (by kernel_rfl) (fun a => by kernel_rfl)
/-! loop.example/fossick/spec.l30Docs -/
def s_l30Docs_arg : Sh := ⟨[.box 900000 0], [(900000, false, [.pv (.sl (.int .u8)), .pv (.int .i64)])]⟩
def s_l30Docs_ret : Sh := ⟨[.own 1 (.pair (.int .i64) (.pair (.sl (.pair .str .str)) (.sl (.pair .str (.int .i64))))) 102 true], [(900000, false, [.pv (.sl (.int .u8)), .pv (.int .i64)])]⟩
def s_l30Docs_s1 : Sh := ⟨.box 900000 0 :: .dead :: .dead :: .own 600003 Y1 102 true :: .pv (.int .i64) :: .pv (.int .i64) :: dz 19 [], [(900000, false, [.pv (.sl (.int .u8)), .pv (.int .i64)])]⟩
def s_l30Docs_h : Hint := (.seq .no (.seq .no (.seq .no (.seq (.seq .no (.block (.loop s_l30Docs_s1 .no))) .no))))
def s_l30Docs_m (N : Nat) (b : List Int) (b2 : Int) : Option ((List (Int × (List ((List UInt8) × (List UInt8))) × (List ((List UInt8) × Int)))) × (List Int) × Int) :=
 (Option.bind (s_l30Rd_pick_m N 6 b b2) fun r =>
 (iter (fun go (g : (List (Int × (List ((List UInt8) × (List UInt8))) × (List ((List UInt8) × Int)))) × Int × Int × (List Int) × Int) =>
 match g with
 | (out, id, n, b3, b4) =>
 (bif (decide ((0 : Int) < n)) then
 (if fits (id + 1) then (Option.bind (s_l30Rd_pick_m N 3 b3 b4) fun r2 =>
 (if fits ((id + 1) + r2.1) then (Option.bind (s_l30Doc_m N ((id + 1) + r2.1) r2.2.1 r2.2.2) fun r3 =>
 (if room out.length ([(r3.1, r3.2.1, r3.2.2.1)] : List (Int × (List ((List UInt8) × (List UInt8))) × (List ((List UInt8) × Int)))).length 56 then
 (if fits (n - 1) then (go ((out ++ ([(r3.1, r3.2.1, r3.2.2.1)] : List (Int × (List ((List UInt8) × (List UInt8))) × (List ((List UInt8) × Int))))), ((id + 1) + r2.1), (n - 1), r3.2.2.2.1, r3.2.2.2.2)) else none)
 else none)) else none)) else none)
 else
 (some (out, b3, b4)))) N (([] : List (Int × (List ((List UInt8) × (List UInt8))) × (List ((List UInt8) × Int)))), 0, r.1, r.2.1, r.2.2)))
def s_l30Docs_M (N : Nat) : Model := ⟨s_l30Docs_arg, s_l30Docs_ret, fun a => s_l30Docs_m N a.1 a.2⟩
set_option maxRecDepth 1000000 in
theorem s_l30Docs_ok (N : Nat) : ModelOk Tryz.prog 84 (s_l30Docs_M N) :=
  modelOk_of (E := mkEnv [(52, s_l30Rd_pick_M N), (113, s_l30Doc_M N)] [] [900000]) (mkEnv_ok (fnsOk_cons (s_l30Rd_pick_ok N) (fnsOk_cons (s_l30Doc_ok N) fnsOk_nil)) _ _) Tryz.func84 (by kernel_rfl) rfl N s_l30Docs_h (s_l30Docs_M N) (by kernel_rfl) (by kernel_rfl) (fun a => by kernel_rfl)
/-! loop.example/fossick/spec.l7Put -/
def s_l7Put_arg : Sh := ⟨[.pv (.sl .str), .pv .str], []⟩
def s_l7Put_ret : Sh := ⟨[.pv (.sl .str)], []⟩
def s_l7Put_s1 : Sh := ⟨.pv (.sl .str) :: .pv .str :: dz 3 (.pv (.int .i64) :: dz 42 []), []⟩
def s_l7Put_h : Hint := (.seq .no (.seq .no (.seq (.block (.loop s_l7Put_s1 .no)) .no)))
def s_l7Put_m (N : Nat) (list : List (List UInt8)) (s : List UInt8) : Option ((List (List UInt8))) :=
 (iter (fun go (g : (List (List UInt8)) × (List UInt8) × Int) =>
 match g with
 | (list2, s2, k) =>
 (bif (decide (k < (list2.length : Int))) then
 (Option.bind (idx list2 k) fun e =>
 (bif (Op.bytesLess e s2) then
 (if fits (k + 1) then (go (list2, s2, (k + 1))) else none)
 else
 (bif (decide (k < (list2.length : Int))) then
 (Option.bind (idx list2 k) fun e2 =>
 (bif (decide (e2 = s2)) then
 (some list2)
 else
 (Option.bind (cut list2 0 k) fun y =>
 (if room ([] : List (List UInt8)).length y.length 16 then
 (if room (([] : List (List UInt8)) ++ y).length ([s2] : List (List UInt8)).length 16 then
 (Option.bind (cut list2 k (list2.length : Int)) fun y2 =>
 (if room ((([] : List (List UInt8)) ++ y) ++ ([s2] : List (List UInt8))).length y2.length 16 then
 (some (((([] : List (List UInt8)) ++ y) ++ ([s2] : List (List UInt8))) ++ y2))
 else none))
 else none)
 else none))))
 else
 (Option.bind (cut list2 0 k) fun y3 =>
 (if room ([] : List (List UInt8)).length y3.length 16 then
 (if room (([] : List (List UInt8)) ++ y3).length ([s2] : List (List UInt8)).length 16 then
 (Option.bind (cut list2 k (list2.length : Int)) fun y4 =>
 (if room ((([] : List (List UInt8)) ++ y3) ++ ([s2] : List (List UInt8))).length y4.length 16 then
 (some (((([] : List (List UInt8)) ++ y3) ++ ([s2] : List (List UInt8))) ++ y4))
 else none))
 else none)
 else none)))))
 else
 (bif (decide (k < (list2.length : Int))) then
 (Option.bind (idx list2 k) fun e3 =>
 (bif (decide (e3 = s2)) then
 (some list2)
 else
 (Option.bind (cut list2 0 k) fun y5 =>
 (if room ([] : List (List UInt8)).length y5.length 16 then
 (if room (([] : List (List UInt8)) ++ y5).length ([s2] : List (List UInt8)).length 16 then
 (Option.bind (cut list2 k (list2.length : Int)) fun y6 =>
 (if room ((([] : List (List UInt8)) ++ y5) ++ ([s2] : List (List UInt8))).length y6.length 16 then
 (some (((([] : List (List UInt8)) ++ y5) ++ ([s2] : List (List UInt8))) ++ y6))
 else none))
 else none)
 else none))))
 else
 (Option.bind (cut list2 0 k) fun y7 =>
 (if room ([] : List (List UInt8)).length y7.length 16 then
 (if room (([] : List (List UInt8)) ++ y7).length ([s2] : List (List UInt8)).length 16 then
 (Option.bind (cut list2 k (list2.length : Int)) fun y8 =>
 (if room ((([] : List (List UInt8)) ++ y7) ++ ([s2] : List (List UInt8))).length y8.length 16 then
 (some (((([] : List (List UInt8)) ++ y7) ++ ([s2] : List (List UInt8))) ++ y8))
 else none))
 else none)
 else none))))) N (list, s, 0))
def s_l7Put_M (N : Nat) : Model := ⟨s_l7Put_arg, s_l7Put_ret, fun a => s_l7Put_m N a.1 a.2⟩
set_option maxRecDepth 1000000 in
theorem s_l7Put_ok (N : Nat) : ModelOk Tryz.prog 115 (s_l7Put_M N) :=
  modelOk_of (E := mkEnv [] [] []) (mkEnv_ok fnsOk_nil _ _) Tryz.func115 (by kernel_rfl) rfl N s_l7Put_h (s_l7Put_M N) (by kernel_rfl) (by kernel_rfl) (fun a => by kernel_rfl)
/-! loop.example/fossick/spec.l7Names -/
def s_l7Names_arg : Sh := ⟨[.pv (.sl (.pair (.int .i64) (.pair (.sl (.pair .str .str)) (.sl (.pair .str (.int .i64))))))], []⟩
def s_l7Names_ret : Sh := ⟨[.pv (.sl .str)], []⟩
def s_l7Names_s1 : Sh := ⟨.pv Y0 :: .dead :: .dead :: .pv (.sl .str) :: .pv (.int .i64) :: dz 30 [], []⟩
def s_l7Names_s2 : Sh := ⟨.pv Y0 :: .dead :: .dead :: .pv (.sl .str) :: .pv (.int .i64) :: .pv (.int .i64) :: dz 29 [], []⟩
def s_l7Names_h : Hint := (.seq .no (.seq .no (.seq (.seq .no (.block (.loop s_l7Names_s1 (.seq .no (.seq (.block (.seq .no (.block (.loop s_l7Names_s2 .no)))) .no))))) .no)))
def s_l7Names_m (N : Nat) (docs : List (Int × (List ((List UInt8) × (List UInt8))) × (List ((List UInt8) × Int)))) : Option ((List (List UInt8))) :=
 (iter (fun go (g : (List (Int × (List ((List UInt8) × (List UInt8))) × (List ((List UInt8) × Int)))) × (List (List UInt8)) × Int) =>
 match g with
 | (docs2, out, i) =>
 (bif (decide (i < (docs2.length : Int))) then
 (iter (fun go2 (g : (List (Int × (List ((List UInt8) × (List UInt8))) × (List ((List UInt8) × Int)))) × (List (List UInt8)) × Int × Int) =>
 match g with
 | (docs3, out2, i2, k) =>
 (Option.bind (idx docs3 i2) fun e =>
 (bif (decide (k < (e.2.1.length : Int))) then
 (Option.bind (idx docs3 i2) fun e2 =>
 (Option.bind (idx e2.2.1 k) fun e3 =>
 (Option.bind (s_l7Put_m N out2 e3.1) fun r =>
 (if fits (k + 1) then (go2 (docs3, r, i2, (k + 1))) else none))))
 else
 (if fits (i2 + 1) then (go (docs3, out2, (i2 + 1))) else none)))) N (docs2, out, i, 0))
 else
 (some out))) N (docs, ([] : List (List UInt8)), 0))
def s_l7Names_M (N : Nat) : Model := ⟨s_l7Names_arg, s_l7Names_ret, fun a => s_l7Names_m N a⟩
set_option maxRecDepth 1000000 in
theorem s_l7Names_ok (N : Nat) : ModelOk Tryz.prog 87 (s_l7Names_M N) :=
  modelOk_of (E := mkEnv [(115, s_l7Put_M N)] [] []) (mkEnv_ok (fnsOk_cons (s_l7Put_ok N) fnsOk_nil) _ _) Tryz.func87 (by kernel_rfl) rfl N s_l7Names_h (s_l7Names_M N) (by kernel_rfl) (by kernel_rfl) (fun a => by kernel_rfl)
/-! loop.example/fossick/spec.l6Field -/
def s_l6Field_arg : Sh := ⟨[.agg [.pv (.int .i64), .pv (.sl (.pair .str .str)), .pv (.sl (.pair .str (.int .i64)))], .pv .str], []⟩
def s_l6Field_ret : Sh := ⟨[.pv .str], []⟩
def s_l6Field_s1 : Sh := ⟨.dead :: .pv .str :: .box 2 0 :: .dead :: .dead :: .pv (.int .i64) :: dz 21 [], [(2, false, [.pv (.int .i64), .pv Y13, .pv Y10])]⟩
def s_l6Field_h : Hint := (.seq .no (.seq (.seq .no (.block (.loop s_l6Field_s1 .no))) .no))
def s_l6Field_m (N : Nat) (d : Int) (d2 : List ((List UInt8) × (List UInt8))) (d3 : List ((List UInt8) × Int)) (name : List UInt8) : Option ((List UInt8)) :=
 (iter (fun go (g : (List UInt8) × Int × Int × (List ((List UInt8) × (List UInt8))) × (List ((List UInt8) × Int))) =>
 match g with
 | (name2, i, d4, d5, d6) =>
 (bif (decide (i < (d5.length : Int))) then
 (Option.bind (idx d5 i) fun e =>
 (bif (decide (e.1 = name2)) then
 (Option.bind (idx d5 i) fun e2 =>
 (some e2.2))
 else
 (if fits (i + 1) then (go (name2, (i + 1), d4, d5, d6)) else none)))
 else
 (some ([] : List UInt8)))) N (name, 0, d, d2, d3))
def s_l6Field_M (N : Nat) : Model := ⟨s_l6Field_arg, s_l6Field_ret, fun a => s_l6Field_m N a.1 a.2.1 a.2.2.1 a.2.2.2⟩
set_option maxRecDepth 1000000 in
theorem s_l6Field_ok (N : Nat) : ModelOk Tryz.prog 117 (s_l6Field_M N) :=
  modelOk_of (E := mkEnv [] [] []) (mkEnv_ok fnsOk_nil _ _) Tryz.func117 (by kernel_rfl) rfl N s_l6Field_h (s_l6Field_M N) (by kernel_rfl) (by kernel_rfl) (fun a => by kernel_rfl)
/-! loop.example/fossick/spec.l1Fold -/
def s_l1Fold_arg : Sh := ⟨[.pv (.int .u8)], []⟩
def s_l1Fold_ret : Sh := ⟨[.pv (.int .u8)], []⟩
def s_l1Fold_h : Hint := .no
def s_l1Fold_m (N : Nat) (b : Int) : Option (Int) :=
 (bif (decide ((65 : Int) ≤ b)) then
 (bif (decide (b ≤ 90)) then
 (some (IntKind.u8.wrap (b + 32)))
 else
 (bif (decide ((97 : Int) ≤ b)) then
 (bif (decide (b ≤ 122)) then
 (some b)
 else
 (bif (decide ((48 : Int) ≤ b)) then
 (bif (decide (b ≤ 57)) then
 (some b)
 else
 (some 0))
 else
 (some 0)))
 else
 (bif (decide ((48 : Int) ≤ b)) then
 (bif (decide (b ≤ 57)) then
 (some b)
 else
 (some 0))
 else
 (some 0))))
 else
 (bif (decide ((97 : Int) ≤ b)) then
 (bif (decide (b ≤ 122)) then
 (some b)
 else
 (bif (decide ((48 : Int) ≤ b)) then
 (bif (decide (b ≤ 57)) then
 (some b)
 else
 (some 0))
 else
 (some 0)))
 else
 (bif (decide ((48 : Int) ≤ b)) then
 (bif (decide (b ≤ 57)) then
 (some b)
 else
 (some 0))
 else
 (some 0))))
def s_l1Fold_M (N : Nat) : Model := ⟨s_l1Fold_arg, s_l1Fold_ret, fun a => s_l1Fold_m N a⟩
set_option maxRecDepth 1000000 in
theorem s_l1Fold_ok (N : Nat) : ModelOk Tryz.prog 57 (s_l1Fold_M N) :=
  modelOk_of (E := mkEnv [] [] []) (mkEnv_ok fnsOk_nil _ _) Tryz.func57 (by kernel_rfl) rfl N s_l1Fold_h (s_l1Fold_M N) (by kernel_rfl) (by kernel_rfl) (fun a => by kernel_rfl)
/-! loop.example/fossick/spec.l1Words -/
def s_l1Words_arg : Sh := ⟨[.pv .str], []⟩
def s_l1Words_ret : Sh := ⟨[.own 1 (.pair .str (.pair (.int .i64) (.pair (.int .i64) (.int .i64)))) 147 true], []⟩
def s_l1Words_s1 : Sh := ⟨.pv .str :: .dead :: .dead :: .own 600003 Y4 147 true :: .pv (.int .i64) :: dz 50 [], []⟩
def s_l1Words_s2 : Sh := ⟨.pv .str :: .dead :: .dead :: .own 600003 Y4 147 true :: .pv (.int .i64) :: .own 600005 (.int .u8) 5 true :: .pv (.int .i64) :: dz 48 [], []⟩
def s_l1Words_s3 : Sh := ⟨.pv .str :: .dead :: .dead :: .own 600003 Y4 147 true :: .pv (.int .i64) :: .pv (.sl (.int .u8)) :: .pv (.int .i64) :: dz 48 [], []⟩
def s_l1Words_h : Hint := (.seq .no (.seq .no (.seq (.seq .no (.block (.loop s_l1Words_s1 (.seq .no (.seq (.block (.seq .no (.seq .no (.seq (.block (.loop s_l1Words_s2 .no)) (.meet s_l1Words_s3 .no .no))))) .no))))) .no)))
def s_l1Words_m (N : Nat) (s : List UInt8) : Option ((List ((List UInt8) × Int × Int × Int))) :=
 (iter (fun go (g : (List UInt8) × (List ((List UInt8) × Int × Int × Int)) × Int) =>
 match g with
 | (s2, out, i) =>
 (bif (decide (i < (s2.length : Int))) then
 (iter (fun go2 (g : (List UInt8) × (List ((List UInt8) × Int × Int × Int)) × Int × (List Int) × Int) =>
 match g with
 | (s3, out2, i2, w, from0) =>
 (bif (decide (i2 < (s3.length : Int))) then
 (Option.bind (idx s3 i2) fun c =>
 (Option.bind (s_l1Fold_m N (c.toNat : Int)) fun r =>
 (bif (!decide (r = 0)) then
 (Option.bind (idx s3 i2) fun c2 =>
 (Option.bind (s_l1Fold_m N (c2.toNat : Int)) fun r2 =>
 (if room w.length ([r2] : List Int).length 1 then
 (if fits (i2 + 1) then (go2 (s3, out2, (i2 + 1), (w ++ ([r2] : List Int)), from0)) else none)
 else none)))
 else
 (meet (fun (g : (List UInt8) × (List ((List UInt8) × Int × Int × Int)) × Int × (List Int) × Int) =>
 match g with
 | (s4, out3, i3, w2, from02) =>
 (bif (decide ((0 : Int) < (w2.length : Int))) then
 (if room out3.length ([((bytesOf w2), (out3.length : Int), from02, i3)] : List ((List UInt8) × Int × Int × Int)).length 40 then
 (if fits (i3 + 1) then (go (s4, (out3 ++ ([((bytesOf w2), (out3.length : Int), from02, i3)] : List ((List UInt8) × Int × Int × Int))), (i3 + 1))) else none)
 else none)
 else
 (if fits (i3 + 1) then (go (s4, out3, (i3 + 1))) else none))) fun J =>
 (bif (decide ((12 : Int) < (w.length : Int))) then
 (Option.bind (cut w 0 12) fun y =>
 (J (s3, out2, i2, y, from0)))
 else
 (J (s3, out2, i2, w, from0)))))))
 else
 (meet (fun (g : (List UInt8) × (List ((List UInt8) × Int × Int × Int)) × Int × (List Int) × Int) =>
 match g with
 | (s5, out4, i4, w3, from03) =>
 (bif (decide ((0 : Int) < (w3.length : Int))) then
 (if room out4.length ([((bytesOf w3), (out4.length : Int), from03, i4)] : List ((List UInt8) × Int × Int × Int)).length 40 then
 (if fits (i4 + 1) then (go (s5, (out4 ++ ([((bytesOf w3), (out4.length : Int), from03, i4)] : List ((List UInt8) × Int × Int × Int))), (i4 + 1))) else none)
 else none)
 else
 (if fits (i4 + 1) then (go (s5, out4, (i4 + 1))) else none))) fun J2 =>
 (bif (decide ((12 : Int) < (w.length : Int))) then
 (Option.bind (cut w 0 12) fun y2 =>
 (J2 (s3, out2, i2, y2, from0)))
 else
 (J2 (s3, out2, i2, w, from0)))))) N (s2, out, i, ([] : List Int), i))
 else
 (some out))) N (s, ([] : List ((List UInt8) × Int × Int × Int)), 0))
def s_l1Words_M (N : Nat) : Model := ⟨s_l1Words_arg, s_l1Words_ret, fun a => s_l1Words_m N a⟩
set_option maxRecDepth 1000000 in
theorem s_l1Words_ok (N : Nat) : ModelOk Tryz.prog 151 (s_l1Words_M N) :=
  modelOk_of (E := mkEnv [(57, s_l1Fold_M N)] [] []) (mkEnv_ok (fnsOk_cons (s_l1Fold_ok N) fnsOk_nil) _ _) Tryz.func151 (by kernel_rfl) rfl N s_l1Words_h (s_l1Words_M N) (by kernel_rfl) (by kernel_rfl) (fun a => by kernel_rfl)
/-! loop.example/fossick/spec.l2Ends -/
def s_l2Ends_arg : Sh := ⟨[], []⟩
def s_l2Ends_ret : Sh := ⟨[.own 1 .str 9 true], []⟩
def s_l2Ends_h : Hint := .no
def s_l2Ends_m (N : Nat) : Option ((List (List UInt8))) :=
 (some ([([105, 110, 103] : List UInt8), ([101, 100] : List UInt8), ([101, 115] : List UInt8), ([108, 121] : List UInt8), ([115] : List UInt8)] : List (List UInt8)))
def s_l2Ends_M (N : Nat) : Model := ⟨s_l2Ends_arg, s_l2Ends_ret, fun a => s_l2Ends_m N ⟩
set_option maxRecDepth 1000000 in
theorem s_l2Ends_ok (N : Nat) : ModelOk Tryz.prog 92 (s_l2Ends_M N) :=
  modelOk_of (E := mkEnv [] [] []) (mkEnv_ok fnsOk_nil _ _) Tryz.func92 (by kernel_rfl) rfl N s_l2Ends_h (s_l2Ends_M N) (by kernel_rfl) (by kernel_rfl) (fun a => by kernel_rfl)
/-! loop.example/fossick/spec.l2Once -/
def s_l2Once_arg : Sh := ⟨[.pv .str], []⟩
def s_l2Once_ret : Sh := ⟨[.pv .str], []⟩
def s_l2Once_s1 : Sh := ⟨.pv .str :: .dead :: .dead :: .pv (.int .i64) :: dz 30 [], []⟩
def s_l2Once_h : Hint := (.seq .no (.seq (.seq .no (.block (.loop s_l2Once_s1 .no))) .no))
def s_l2Once_m (N : Nat) (s : List UInt8) : Option ((List UInt8)) :=
 (iter (fun go (g : (List UInt8) × Int) =>
 match g with
 | (s2, i) =>
 (Option.bind (s_l2Ends_m N) fun r =>
 (bif (decide (i < (r.length : Int))) then
 (Option.bind (s_l2Ends_m N) fun r2 =>
 (Option.bind (idx r2 i) fun e =>
 (if fits ((s2.length : Int) - (e.length : Int)) then (bif (decide ((3 : Int) ≤ ((s2.length : Int) - (e.length : Int)))) then
 (Option.bind (cut s2 ((s2.length : Int) - (e.length : Int)) (s2.length : Int)) fun y =>
 (bif (decide (y = e)) then
 (Option.bind (cut s2 0 ((s2.length : Int) - (e.length : Int))) fun y2 =>
 (some y2))
 else
 (if fits (i + 1) then (go (s2, (i + 1))) else none)))
 else
 (if fits (i + 1) then (go (s2, (i + 1))) else none)) else none)))
 else
 (some s2)))) N (s, 0))
def s_l2Once_M (N : Nat) : Model := ⟨s_l2Once_arg, s_l2Once_ret, fun a => s_l2Once_m N a⟩
set_option maxRecDepth 1000000 in
theorem s_l2Once_ok (N : Nat) : ModelOk Tryz.prog 59 (s_l2Once_M N) :=
  modelOk_of (E := mkEnv [(92, s_l2Ends_M N)] [] []) (mkEnv_ok (fnsOk_cons (s_l2Ends_ok N) fnsOk_nil) _ _) Tryz.func59 (by kernel_rfl) rfl N s_l2Once_h (s_l2Once_M N) (by kernel_rfl) (by kernel_rfl) (fun a => by kernel_rfl)
/-! loop.example/fossick/spec.l2Stem -/
def s_l2Stem_arg : Sh := ⟨[.pv .str], []⟩
def s_l2Stem_ret : Sh := ⟨[.pv .str], []⟩
def s_l2Stem_s1 : Sh := ⟨.pv .str :: dz 9 [], []⟩
def s_l2Stem_h : Hint := (.seq .no (.seq (.block (.loop s_l2Stem_s1 .no)) .no))
def s_l2Stem_m (N : Nat) (s : List UInt8) : Option ((List UInt8)) :=
 (iter (fun go (g : (List UInt8)) => let s2 := g;
 (Option.bind (s_l2Once_m N s2) fun r =>
 (bif (!decide (r = s2)) then
 (Option.bind (s_l2Once_m N s2) fun r2 =>
 (go r2))
 else
 (some s2)))) N s)
def s_l2Stem_M (N : Nat) : Model := ⟨s_l2Stem_arg, s_l2Stem_ret, fun a => s_l2Stem_m N a⟩
set_option maxRecDepth 1000000 in
theorem s_l2Stem_ok (N : Nat) : ModelOk Tryz.prog 29 (s_l2Stem_M N) :=
  modelOk_of (E := mkEnv [(59, s_l2Once_M N)] [] []) (mkEnv_ok (fnsOk_cons (s_l2Once_ok N) fnsOk_nil) _ _) Tryz.func29 (by kernel_rfl) rfl N s_l2Stem_h (s_l2Stem_M N) (by kernel_rfl) (by kernel_rfl) (fun a => by kernel_rfl)
/-! loop.example/fossick/spec.l2Has -/
def s_l2Has_arg : Sh := ⟨[.pv (.sl .str), .pv .str], []⟩
def s_l2Has_ret : Sh := ⟨[.pv .bool], []⟩
def s_l2Has_s1 : Sh := ⟨.pv (.sl .str) :: .pv .str :: dz 3 (.pv (.int .i64) :: dz 12 []), []⟩
def s_l2Has_h : Hint := (.seq .no (.seq (.seq .no (.block (.loop s_l2Has_s1 .no))) .no))
def s_l2Has_m (N : Nat) (list : List (List UInt8)) (s : List UInt8) : Option (Bool) :=
 (iter (fun go (g : (List (List UInt8)) × (List UInt8) × Int) =>
 match g with
 | (list2, s2, i) =>
 (bif (decide (i < (list2.length : Int))) then
 (Option.bind (idx list2 i) fun e =>
 (bif (decide (e = s2)) then
 (some true)
 else
 (if fits (i + 1) then (go (list2, s2, (i + 1))) else none)))
 else
 (some false))) N (list, s, 0))
def s_l2Has_M (N : Nat) : Model := ⟨s_l2Has_arg, s_l2Has_ret, fun a => s_l2Has_m N a.1 a.2⟩
set_option maxRecDepth 1000000 in
theorem s_l2Has_ok (N : Nat) : ModelOk Tryz.prog 85 (s_l2Has_M N) :=
  modelOk_of (E := mkEnv [] [] []) (mkEnv_ok fnsOk_nil _ _) Tryz.func85 (by kernel_rfl) rfl N s_l2Has_h (s_l2Has_M N) (by kernel_rfl) (by kernel_rfl) (fun a => by kernel_rfl)
/-! loop.example/fossick/spec.l2Plain -/
def s_l2Plain_arg : Sh := ⟨[.agg [.pv (.sl .str), .pv (.sl (.pair (.sl .str) .str))], .pv .str], []⟩
def s_l2Plain_ret : Sh := ⟨[.own 1 (.pair .str (.int .i64)) 110 true], []⟩
def s_l2Plain_s1 : Sh := ⟨.dead :: .dead :: .box 2 0 :: .dead :: .dead :: .own 600005 Y12 110 true :: .own 600006 Y4 147 true :: .pv (.int .i64) :: dz 43 [], [(2, false, [.pv (.sl .str), .pv Y11])]⟩
def s_l2Plain_h : Hint := (.seq .no (.seq .no (.seq .no (.seq (.seq .no (.block (.loop s_l2Plain_s1 .no))) .no))))
def s_l2Plain_m (N : Nat) (c : List (List UInt8)) (c2 : List ((List (List UInt8)) × (List UInt8))) (s : List UInt8) : Option ((List ((List UInt8) × Int))) :=
 (Option.bind (s_l1Words_m N s) fun r =>
 (iter (fun go (g : (List ((List UInt8) × Int)) × (List ((List UInt8) × Int × Int × Int)) × Int × (List (List UInt8)) × (List ((List (List UInt8)) × (List UInt8)))) =>
 match g with
 | (out, words, i, c3, c4) =>
 (bif (decide (i < (words.length : Int))) then
 (Option.bind (idx words i) fun e =>
 (Option.bind (s_l2Stem_m N e.1) fun r2 =>
 (Option.bind (idx words i) fun e2 =>
 (Option.bind (s_l2Has_m N c3 e2.1) fun r3 =>
 (bif (!r3) then
 (Option.bind (s_l2Has_m N c3 r2) fun r4 =>
 (bif (!r4) then
 (Option.bind (idx words i) fun e3 =>
 (if room out.length ([(r2, e3.2.1)] : List ((List UInt8) × Int)).length 24 then
 (if fits (i + 1) then (go ((out ++ ([(r2, e3.2.1)] : List ((List UInt8) × Int))), words, (i + 1), c3, c4)) else none)
 else none))
 else
 (if fits (i + 1) then (go (out, words, (i + 1), c3, c4)) else none)))
 else
 (if fits (i + 1) then (go (out, words, (i + 1), c3, c4)) else none))))))
 else
 (some out))) N (([] : List ((List UInt8) × Int)), r, 0, c, c2)))
def s_l2Plain_M (N : Nat) : Model := ⟨s_l2Plain_arg, s_l2Plain_ret, fun a => s_l2Plain_m N a.1 a.2.1 a.2.2⟩
set_option maxRecDepth 1000000 in
theorem s_l2Plain_ok (N : Nat) : ModelOk Tryz.prog 140 (s_l2Plain_M N) :=
  modelOk_of (E := mkEnv [(151, s_l1Words_M N), (29, s_l2Stem_M N), (85, s_l2Has_M N)] [] []) (mkEnv_ok (fnsOk_cons (s_l1Words_ok N) (fnsOk_cons (s_l2Stem_ok N) (fnsOk_cons (s_l2Has_ok N) fnsOk_nil))) _ _) Tryz.func140 (by kernel_rfl) rfl N s_l2Plain_h (s_l2Plain_M N) (by kernel_rfl) (by kernel_rfl) (fun a => by kernel_rfl)
/-! loop.example/fossick/spec.l2Begins -/
def s_l2Begins_arg : Sh := ⟨[.pv (.sl (.pair .str (.int .i64))), .pv (.sl .str)], []⟩
def s_l2Begins_ret : Sh := ⟨[.pv .bool], []⟩
def s_l2Begins_s1 : Sh := ⟨.pv Y10 :: .pv (.sl .str) :: dz 3 (.pv (.int .i64) :: dz 36 []), []⟩
def s_l2Begins_h : Hint := (.seq .no (.seq (.seq .no (.block (.loop s_l2Begins_s1 .no))) .no))
def s_l2Begins_m (N : Nat) (list : List ((List UInt8) × Int)) (from0 : List (List UInt8)) : Option (Bool) :=
 (iter (fun go (g : (List ((List UInt8) × Int)) × (List (List UInt8)) × Int) =>
 match g with
 | (list2, from02, i) =>
 (bif (decide (i < (from02.length : Int))) then
 (bif (decide ((list2.length : Int) ≤ i)) then
 (some false)
 else
 (Option.bind (idx list2 i) fun e =>
 (Option.bind (idx from02 i) fun e2 =>
 (bif (!decide (e.1 = e2)) then
 (some false)
 else
 (Option.bind (idx list2 i) fun e3 =>
 (Option.bind (idx list2 0) fun e4 =>
 (if fits (e4.2 + i) then (bif (!decide (e3.2 = (e4.2 + i))) then
 (some false)
 else
 (if fits (i + 1) then (go (list2, from02, (i + 1))) else none)) else none)))))))
 else
 (some true))) N (list, from0, 0))
def s_l2Begins_M (N : Nat) : Model := ⟨s_l2Begins_arg, s_l2Begins_ret, fun a => s_l2Begins_m N a.1 a.2⟩
set_option maxRecDepth 1000000 in
theorem s_l2Begins_ok (N : Nat) : ModelOk Tryz.prog 152 (s_l2Begins_M N) :=
  modelOk_of (E := mkEnv [] [] []) (mkEnv_ok fnsOk_nil _ _) Tryz.func152 (by kernel_rfl) rfl N s_l2Begins_h (s_l2Begins_M N) (by kernel_rfl) (by kernel_rfl) (fun a => by kernel_rfl)
/-! loop.example/fossick/spec.l2Syn -/
def s_l2Syn_arg : Sh := ⟨[.agg [.pv (.sl .str), .pv (.sl (.pair (.sl .str) .str))], .pv (.sl (.pair .str (.int .i64)))], []⟩
def s_l2Syn_ret : Sh := ⟨[.pv (.int .i64)], []⟩
def s_l2Syn_s1 : Sh := ⟨.dead :: .pv Y10 :: .box 2 0 :: .dead :: .dead :: .pv (.int .i64) :: .pv (.int .i64) :: dz 38 [], [(2, false, [.pv (.sl .str), .pv Y11])]⟩
def s_l2Syn_h : Hint := (.seq .no (.seq .no (.seq (.seq .no (.block (.loop s_l2Syn_s1 .no))) .no)))
def s_l2Syn_m (N : Nat) (c : List (List UInt8)) (c2 : List ((List (List UInt8)) × (List UInt8))) (list : List ((List UInt8) × Int)) : Option (Int) :=
 (iter (fun go (g : (List ((List UInt8) × Int)) × Int × Int × (List (List UInt8)) × (List ((List (List UInt8)) × (List UInt8)))) =>
 match g with
 | (list2, best, i, c3, c4) =>
 (bif (decide (i < (c4.length : Int))) then
 (Option.bind (idx c4 i) fun e =>
 (Option.bind (s_l2Begins_m N list2 e.1) fun r =>
 (bif r then
 (bif (decide (best < 0)) then
 (if fits (i + 1) then (go (list2, i, (i + 1), c3, c4)) else none)
 else
 (Option.bind (idx c4 i) fun e2 =>
 (Option.bind (idx c4 best) fun e3 =>
 (bif (decide ((e3.1.length : Int) < (e2.1.length : Int))) then
 (if fits (i + 1) then (go (list2, i, (i + 1), c3, c4)) else none)
 else
 (if fits (i + 1) then (go (list2, best, (i + 1), c3, c4)) else none)))))
 else
 (if fits (i + 1) then (go (list2, best, (i + 1), c3, c4)) else none))))
 else
 (some best))) N (list, (-1), 0, c, c2))
def s_l2Syn_M (N : Nat) : Model := ⟨s_l2Syn_arg, s_l2Syn_ret, fun a => s_l2Syn_m N a.1 a.2.1 a.2.2⟩
set_option maxRecDepth 1000000 in
theorem s_l2Syn_ok (N : Nat) : ModelOk Tryz.prog 141 (s_l2Syn_M N) :=
  modelOk_of (E := mkEnv [(152, s_l2Begins_M N)] [] []) (mkEnv_ok (fnsOk_cons (s_l2Begins_ok N) fnsOk_nil) _ _) Tryz.func141 (by kernel_rfl) rfl N s_l2Syn_h (s_l2Syn_M N) (by kernel_rfl) (by kernel_rfl) (fun a => by kernel_rfl)
/-! loop.example/fossick/spec.l2Terms -/
def s_l2Terms_arg : Sh := ⟨[.agg [.pv (.sl .str), .pv (.sl (.pair (.sl .str) .str))], .pv .str], []⟩
def s_l2Terms_ret : Sh := ⟨[.own 1 (.pair .str (.int .i64)) 110 true], []⟩
def s_l2Terms_s1 : Sh := ⟨.dead :: .dead :: .box 2 0 :: .dead :: .dead :: .own 600005 Y12 110 true :: .pv Y10 :: dz 45 [], [(2, false, [.pv (.sl .str), .pv Y11])]⟩
def s_l2Terms_h : Hint := (.seq .no (.seq .no (.seq .no (.seq (.block (.loop s_l2Terms_s1 .no)) .no))))
def s_l2Terms_m (N : Nat) (c : List (List UInt8)) (c2 : List ((List (List UInt8)) × (List UInt8))) (s : List UInt8) : Option ((List ((List UInt8) × Int))) :=
 (Option.bind (s_l2Plain_m N c c2 s) fun r =>
 (iter (fun go (g : (List ((List UInt8) × Int)) × (List ((List UInt8) × Int)) × (List (List UInt8)) × (List ((List (List UInt8)) × (List UInt8)))) =>
 match g with
 | (out, list, c3, c4) =>
 (bif (decide ((0 : Int) < (list.length : Int))) then
 (Option.bind (s_l2Syn_m N c3 c4 list) fun r2 =>
 (bif (decide (r2 < 0)) then
 (Option.bind (idx list 0) fun e =>
 (if room out.length ([e] : List ((List UInt8) × Int)).length 24 then
 (Option.bind (cut list 1 (list.length : Int)) fun y =>
 (go ((out ++ ([e] : List ((List UInt8) × Int))), y, c3, c4)))
 else none))
 else
 (Option.bind (idx c4 r2) fun e2 =>
 (Option.bind (idx list 0) fun e3 =>
 (if room out.length ([(e2.2, e3.2)] : List ((List UInt8) × Int)).length 24 then
 (Option.bind (idx c4 r2) fun e4 =>
 (Option.bind (cut list (e4.1.length : Int) (list.length : Int)) fun y2 =>
 (go ((out ++ ([(e2.2, e3.2)] : List ((List UInt8) × Int))), y2, c3, c4))))
 else none)))))
 else
 (some out))) N (([] : List ((List UInt8) × Int)), r, c, c2)))
def s_l2Terms_M (N : Nat) : Model := ⟨s_l2Terms_arg, s_l2Terms_ret, fun a => s_l2Terms_m N a.1 a.2.1 a.2.2⟩
set_option maxRecDepth 1000000 in
theorem s_l2Terms_ok (N : Nat) : ModelOk Tryz.prog 116 (s_l2Terms_M N) :=
  modelOk_of (E := mkEnv [(140, s_l2Plain_M N), (141, s_l2Syn_M N)] [] []) (mkEnv_ok (fnsOk_cons (s_l2Plain_ok N) (fnsOk_cons (s_l2Syn_ok N) fnsOk_nil)) _ _) Tryz.func116 (by kernel_rfl) rfl N s_l2Terms_h (s_l2Terms_M N) (by kernel_rfl) (by kernel_rfl) (fun a => by kernel_rfl)
/-! loop.example/fossick/spec.l7Terms -/
def s_l7Terms_arg : Sh := ⟨[.agg [.pv (.sl .str), .pv (.sl (.pair (.sl .str) .str))], .pv (.sl (.pair (.int .i64) (.pair (.sl (.pair .str .str)) (.sl (.pair .str (.int .i64)))))), .pv .str], []⟩
def s_l7Terms_ret : Sh := ⟨[.pv (.sl .str)], []⟩
def s_l7Terms_s1 : Sh := ⟨.dead :: .pv Y0 :: .pv .str :: .box 3 0 :: dz 3 (.pv (.sl .str) :: .pv (.int .i64) :: dz 31 []), [(3, false, [.pv (.sl .str), .pv Y11])]⟩
def s_l7Terms_s2 : Sh := ⟨.dead :: .pv Y0 :: .pv .str :: .box 3 0 :: dz 3 (.pv (.sl .str) :: .pv (.int .i64) :: .own 600009 Y12 110 true :: .pv (.int .i64) :: dz 29 []), [(3, false, [.pv (.sl .str), .pv Y11])]⟩
def s_l7Terms_h : Hint := (.seq .no (.seq .no (.seq (.seq .no (.block (.loop s_l7Terms_s1 (.seq .no (.seq (.block (.seq .no (.seq .no (.block (.loop s_l7Terms_s2 .no))))) .no))))) .no)))
def s_l7Terms_m (N : Nat) (c : List (List UInt8)) (c2 : List ((List (List UInt8)) × (List UInt8))) (docs : List (Int × (List ((List UInt8) × (List UInt8))) × (List ((List UInt8) × Int)))) (field : List UInt8) : Option ((List (List UInt8))) :=
 (iter (fun go (g : (List (Int × (List ((List UInt8) × (List UInt8))) × (List ((List UInt8) × Int)))) × (List UInt8) × (List (List UInt8)) × Int × (List (List UInt8)) × (List ((List (List UInt8)) × (List UInt8)))) =>
 match g with
 | (docs2, field2, out, i, c3, c4) =>
 (bif (decide (i < (docs2.length : Int))) then
 (Option.bind (idx docs2 i) fun e =>
 (Option.bind (s_l6Field_m N e.1 e.2.1 e.2.2 field2) fun r =>
 (Option.bind (s_l2Terms_m N c3 c4 r) fun r2 =>
 (iter (fun go2 (g : (List (Int × (List ((List UInt8) × (List UInt8))) × (List ((List UInt8) × Int)))) × (List UInt8) × (List (List UInt8)) × Int × (List ((List UInt8) × Int)) × Int × (List (List UInt8)) × (List ((List (List UInt8)) × (List UInt8)))) =>
 match g with
 | (docs3, field3, out2, i2, list, k, c5, c6) =>
 (bif (decide (k < (list.length : Int))) then
 (Option.bind (idx list k) fun e2 =>
 (Option.bind (s_l7Put_m N out2 e2.1) fun r3 =>
 (if fits (k + 1) then (go2 (docs3, field3, r3, i2, list, (k + 1), c5, c6)) else none)))
 else
 (if fits (i2 + 1) then (go (docs3, field3, out2, (i2 + 1), c5, c6)) else none))) N (docs2, field2, out, i, r2, 0, c3, c4)))))
 else
 (some out))) N (docs, field, ([] : List (List UInt8)), 0, c, c2))
def s_l7Terms_M (N : Nat) : Model := ⟨s_l7Terms_arg, s_l7Terms_ret, fun a => s_l7Terms_m N a.1 a.2.1 a.2.2.1 a.2.2.2⟩
set_option maxRecDepth 1000000 in
theorem s_l7Terms_ok (N : Nat) : ModelOk Tryz.prog 88 (s_l7Terms_M N) :=
  modelOk_of (E := mkEnv [(117, s_l6Field_M N), (116, s_l2Terms_M N), (115, s_l7Put_M N)] [] []) (mkEnv_ok (fnsOk_cons (s_l6Field_ok N) (fnsOk_cons (s_l2Terms_ok N) (fnsOk_cons (s_l7Put_ok N) fnsOk_nil))) _ _) Tryz.func88 (by kernel_rfl) rfl N s_l7Terms_h (s_l7Terms_M N) (by kernel_rfl) (by kernel_rfl) (fun a => by kernel_rfl)
/-! loop.example/fossick/spec.l7Post -/
def s_l7Post_arg : Sh := ⟨[.agg [.pv (.sl .str), .pv (.sl (.pair (.sl .str) .str))], .agg [.pv (.int .i64), .pv (.sl (.pair .str .str)), .pv (.sl (.pair .str (.int .i64)))], .pv .str, .pv .str], []⟩
def s_l7Post_ret : Sh := ⟨[.own 1 (.int .i64) 3 true], []⟩
def s_l7Post_s1 : Sh := ⟨dz 3 (.pv .str :: dz 5 (.own 600009 (.int .i64) 3 true :: .own 600010 Y12 110 true :: .pv (.int .i64) :: dz 28 [])), []⟩
def s_l7Post_h : Hint := (.seq .no (.seq .no (.seq .no (.seq (.seq .no (.block (.loop s_l7Post_s1 .no))) .no))))
def s_l7Post_m (N : Nat) (c : List (List UInt8)) (c2 : List ((List (List UInt8)) × (List UInt8))) (d : Int) (d2 : List ((List UInt8) × (List UInt8))) (d3 : List ((List UInt8) × Int)) (field : List UInt8) (term : List UInt8) : Option ((List Int)) :=
 (Option.bind (s_l6Field_m N d d2 d3 field) fun r =>
 (Option.bind (s_l2Terms_m N c c2 r) fun r2 =>
 (iter (fun go (g : (List UInt8) × (List Int) × (List ((List UInt8) × Int)) × Int) =>
 match g with
 | (term2, out, list, i) =>
 (bif (decide (i < (list.length : Int))) then
 (Option.bind (idx list i) fun e =>
 (bif (decide (e.1 = term2)) then
 (Option.bind (idx list i) fun e2 =>
 (if room out.length ([e2.2] : List Int).length 8 then
 (if fits (i + 1) then (go (term2, (out ++ ([e2.2] : List Int)), list, (i + 1))) else none)
 else none))
 else
 (if fits (i + 1) then (go (term2, out, list, (i + 1))) else none)))
 else
 (some out))) N (term, ([] : List Int), r2, 0))))
def s_l7Post_M (N : Nat) : Model := ⟨s_l7Post_arg, s_l7Post_ret, fun a => s_l7Post_m N a.1 a.2.1 a.2.2.1 a.2.2.2.1 a.2.2.2.2.1 a.2.2.2.2.2.1 a.2.2.2.2.2.2⟩
set_option maxRecDepth 1000000 in
theorem s_l7Post_ok (N : Nat) : ModelOk Tryz.prog 118 (s_l7Post_M N) :=
  modelOk_of (E := mkEnv [(117, s_l6Field_M N), (116, s_l2Terms_M N)] [] []) (mkEnv_ok (fnsOk_cons (s_l6Field_ok N) (fnsOk_cons (s_l2Terms_ok N) fnsOk_nil)) _ _) Tryz.func118 (by kernel_rfl) rfl N s_l7Post_h (s_l7Post_M N) (by kernel_rfl) (by kernel_rfl) (fun a => by kernel_rfl)
/-! loop.example/fossick/spec.l7Entry -/
def s_l7Entry_arg : Sh := ⟨[.agg [.pv (.sl .str), .pv (.sl (.pair (.sl .str) .str))], .pv (.sl (.pair (.int .i64) (.pair (.sl (.pair .str .str)) (.sl (.pair .str (.int .i64)))))), .pv .str, .pv .str], []⟩
def s_l7Entry_ret : Sh := ⟨[.agg [.pv .str, .pv .str, .own 1 (.pair (.int .i64) (.sl (.int .i64))) 77 true]], []⟩
def s_l7Entry_s1 : Sh := ⟨.dead :: .pv Y0 :: .pv .str :: .pv .str :: .box 4 0 :: dz 3 (.box 8 0 :: .box 9 0 :: .pv (.int .i64) :: dz 34 []), [(4, false, [.pv (.sl .str), .pv Y11]), (8, false, [.pv .str, .pv .str, .nils]), (9, false, [.pv .str, .pv .str, .own 700902 Y9 77 true])]⟩
def s_l7Entry_h : Hint := (.seq .no (.seq .no (.seq (.seq .no (.block (.loop s_l7Entry_s1 .no))) .no)))
def s_l7Entry_m (N : Nat) (c : List (List UInt8)) (c2 : List ((List (List UInt8)) × (List UInt8))) (docs : List (Int × (List ((List UInt8) × (List UInt8))) × (List ((List UInt8) × Int)))) (field : List UInt8) (term : List UInt8) : Option ((List UInt8) × (List UInt8) × (List (Int × (List Int)))) :=
 (iter (fun go (g : (List (Int × (List ((List UInt8) × (List UInt8))) × (List ((List UInt8) × Int)))) × (List UInt8) × (List UInt8) × Int × (List (List UInt8)) × (List ((List (List UInt8)) × (List UInt8))) × (List UInt8) × (List UInt8) × (List UInt8) × (List UInt8) × (List (Int × (List Int)))) =>
 match g with
 | (docs2, field2, term2, i, c3, c4, b, b2, e, e2, e3) =>
 (bif (decide (i < (docs2.length : Int))) then
 (Option.bind (idx docs2 i) fun e4 =>
 (Option.bind (s_l7Post_m N c3 c4 e4.1 e4.2.1 e4.2.2 field2 term2) fun r =>
 (bif (decide ((0 : Int) < (r.length : Int))) then
 (Option.bind (idx docs2 i) fun e5 =>
 (if room e3.length ([(e5.1, r)] : List (Int × (List Int))).length 32 then
 (if fits (i + 1) then (go (docs2, field2, term2, (i + 1), c3, c4, b, b2, e, e2, (e3 ++ ([(e5.1, r)] : List (Int × (List Int)))))) else none)
 else none))
 else
 (if fits (i + 1) then (go (docs2, field2, term2, (i + 1), c3, c4, b, b2, e, e2, e3)) else none))))
 else
 (some (e, e2, e3)))) N (docs, field, term, 0, c, c2, ([] : List UInt8), ([] : List UInt8), field, term, ([] : List (Int × (List Int)))))
def s_l7Entry_M (N : Nat) : Model := ⟨s_l7Entry_arg, s_l7Entry_ret, fun a => s_l7Entry_m N a.1 a.2.1 a.2.2.1 a.2.2.2.1 a.2.2.2.2⟩
set_option maxRecDepth 1000000 in
theorem s_l7Entry_ok (N : Nat) : ModelOk Tryz.prog 89 (s_l7Entry_M N) :=
  modelOk_of (E := mkEnv [(118, s_l7Post_M N)] [] []) (mkEnv_ok (fnsOk_cons (s_l7Post_ok N) fnsOk_nil) _ _) Tryz.func89 (by kernel_rfl) rfl N s_l7Entry_h (s_l7Entry_M N) (by kernel_rfl) (by kernel_rfl) (fun a => by kernel_rfl)
/-! loop.example/fossick/spec.l7CopyDoc -/
def s_l7CopyDoc_arg : Sh := ⟨[.agg [.pv (.int .i64), .pv (.sl (.pair .str .str)), .pv (.sl (.pair .str (.int .i64)))]], []⟩
def s_l7CopyDoc_ret : Sh := ⟨[.agg [.pv (.int .i64), .own 1 (.pair .str .str) 106 true, .own 2 (.pair .str (.int .i64)) 143 true]], []⟩
def s_l7CopyDoc_h : Hint := .no
def s_l7CopyDoc_m (N : Nat) (d : Int) (d2 : List ((List UInt8) × (List UInt8))) (d3 : List ((List UInt8) × Int)) : Option (Int × (List ((List UInt8) × (List UInt8))) × (List ((List UInt8) × Int))) :=
 (if room ([] : List ((List UInt8) × (List UInt8))).length d2.length 32 then
 (if room ([] : List ((List UInt8) × Int)).length d3.length 24 then
 (some (d, (([] : List ((List UInt8) × (List UInt8))) ++ d2), (([] : List ((List UInt8) × Int)) ++ d3)))
 else none)
 else none)
def s_l7CopyDoc_M (N : Nat) : Model := ⟨s_l7CopyDoc_arg, s_l7CopyDoc_ret, fun a => s_l7CopyDoc_m N a.1 a.2.1 a.2.2⟩
set_option maxRecDepth 1000000 in
theorem s_l7CopyDoc_ok (N : Nat) : ModelOk Tryz.prog 90 (s_l7CopyDoc_M N) :=
  modelOk_of (E := mkEnv [] [] []) (mkEnv_ok fnsOk_nil _ _) Tryz.func90 (by kernel_rfl) rfl N s_l7CopyDoc_h (s_l7CopyDoc_M N) (by kernel_rfl) (by kernel_rfl) (fun a => by kernel_rfl)
/-! loop.example/fossick/spec.l7Of -/
def s_l7Of_arg : Sh := ⟨[.agg [.pv (.sl .str), .pv (.sl (.pair (.sl .str) .str))], .pv (.sl (.pair (.int .i64) (.pair (.sl (.pair .str .str)) (.sl (.pair .str (.int .i64))))))], []⟩
def s_l7Of_ret : Sh := ⟨[.agg [.own 1 (.pair (.int .i64) (.pair (.sl (.pair .str .str)) (.sl (.pair .str (.int .i64))))) 102 true, .own 2 (.pair .str (.pair .str (.sl (.pair (.int .i64) (.sl (.int .i64)))))) 66 true]], []⟩
def s_l7Of_s1 : Sh := ⟨.dead :: .pv Y0 :: .box 2 0 :: .dead :: .box 4 0 :: .box 5 0 :: .pv (.sl .str) :: .pv (.int .i64) :: dz 58 [], [(2, false, [.pv (.sl .str), .pv Y11]), (4, false, [.nils, .nils]), (5, false, [.nils, .own 700501 Y3 66 true])]⟩
def s_l7Of_s2 : Sh := ⟨.dead :: .pv Y0 :: .box 2 0 :: .dead :: .box 4 0 :: .box 5 0 :: .pv (.sl .str) :: .pv (.int .i64) :: .pv (.sl .str) :: .pv (.int .i64) :: dz 56 [], [(2, false, [.pv (.sl .str), .pv Y11]), (4, false, [.nils, .nils]), (5, false, [.nils, .own 700501 Y3 66 true])]⟩
def s_l7Of_s3 : Sh := ⟨.dead :: .pv Y0 :: .dead :: .dead :: .box 4 0 :: .box 5 0 :: dz 4 (.pv (.int .i64) :: dz 55 []), [(4, false, [.nils, .nils]), (5, false, [.own 700500 Y1 102 true, .own 700501 Y3 66 true])]⟩
def s_l7Of_h : Hint := (.seq .no (.seq .no (.seq .no (.seq (.seq .no (.block (.loop s_l7Of_s1 (.seq .no (.seq (.block (.seq .no (.seq .no (.block (.loop s_l7Of_s2 .no))))) .no))))) (.seq (.seq .no (.block (.loop s_l7Of_s3 .no))) .no)))))
def s_l7Of_m (N : Nat) (c : List (List UInt8)) (c2 : List ((List (List UInt8)) × (List UInt8))) (docs : List (Int × (List ((List UInt8) × (List UInt8))) × (List ((List UInt8) × Int)))) : Option ((List (Int × (List ((List UInt8) × (List UInt8))) × (List ((List UInt8) × Int)))) × (List ((List UInt8) × (List UInt8) × (List (Int × (List Int)))))) :=
 (Option.bind (s_l7Names_m N docs) fun r =>
 (iter (fun go (g : (List (Int × (List ((List UInt8) × (List UInt8))) × (List ((List UInt8) × Int)))) × (List (List UInt8)) × Int × (List (List UInt8)) × (List ((List (List UInt8)) × (List UInt8))) × (List ((List UInt8) × (List UInt8) × (List (Int × (List Int)))))) =>
 match g with
 | (docs2, names, i, c3, c4, s) =>
 (bif (decide (i < (names.length : Int))) then
 (Option.bind (idx names i) fun e =>
 (Option.bind (s_l7Terms_m N c3 c4 docs2 e) fun r2 =>
 (iter (fun go2 (g : (List (Int × (List ((List UInt8) × (List UInt8))) × (List ((List UInt8) × Int)))) × (List (List UInt8)) × Int × (List (List UInt8)) × Int × (List (List UInt8)) × (List ((List (List UInt8)) × (List UInt8))) × (List ((List UInt8) × (List UInt8) × (List (Int × (List Int)))))) =>
 match g with
 | (docs3, names2, i2, terms, k, c5, c6, s2) =>
 (bif (decide (k < (terms.length : Int))) then
 (Option.bind (idx names2 i2) fun e2 =>
 (Option.bind (idx terms k) fun e3 =>
 (Option.bind (s_l7Entry_m N c5 c6 docs3 e2 e3) fun r3 =>
 (if room s2.length ([r3] : List ((List UInt8) × (List UInt8) × (List (Int × (List Int))))).length 56 then
 (if fits (k + 1) then (go2 (docs3, names2, i2, terms, (k + 1), c5, c6, (s2 ++ ([r3] : List ((List UInt8) × (List UInt8) × (List (Int × (List Int)))))))) else none)
 else none))))
 else
 (if fits (i2 + 1) then (go (docs3, names2, (i2 + 1), c5, c6, s2)) else none))) N (docs2, names, i, r2, 0, c3, c4, s))))
 else
 (iter (fun go3 (g : (List (Int × (List ((List UInt8) × (List UInt8))) × (List ((List UInt8) × Int)))) × Int × (List (Int × (List ((List UInt8) × (List UInt8))) × (List ((List UInt8) × Int)))) × (List ((List UInt8) × (List UInt8) × (List (Int × (List Int)))))) =>
 match g with
 | (docs4, i3, s3, s4) =>
 (bif (decide (i3 < (docs4.length : Int))) then
 (Option.bind (idx docs4 i3) fun e4 =>
 (Option.bind (s_l7CopyDoc_m N e4.1 e4.2.1 e4.2.2) fun r4 =>
 (if room s3.length ([r4] : List (Int × (List ((List UInt8) × (List UInt8))) × (List ((List UInt8) × Int)))).length 56 then
 (if fits (i3 + 1) then (go3 (docs4, (i3 + 1), (s3 ++ ([r4] : List (Int × (List ((List UInt8) × (List UInt8))) × (List ((List UInt8) × Int))))), s4)) else none)
 else none)))
 else
 (some (s3, s4)))) N (docs2, 0, ([] : List (Int × (List ((List UInt8) × (List UInt8))) × (List ((List UInt8) × Int)))), s)))) N (docs, r, 0, c, c2, ([] : List ((List UInt8) × (List UInt8) × (List (Int × (List Int))))))))
def s_l7Of_M (N : Nat) : Model := ⟨s_l7Of_arg, s_l7Of_ret, fun a => s_l7Of_m N a.1 a.2.1 a.2.2⟩
set_option maxRecDepth 1000000 in
theorem s_l7Of_ok (N : Nat) : ModelOk Tryz.prog 55 (s_l7Of_M N) :=
  modelOk_of (E := mkEnv [(87, s_l7Names_M N), (88, s_l7Terms_M N), (89, s_l7Entry_M N), (90, s_l7CopyDoc_M N)] [] []) (mkEnv_ok (fnsOk_cons (s_l7Names_ok N) (fnsOk_cons (s_l7Terms_ok N) (fnsOk_cons (s_l7Entry_ok N) (fnsOk_cons (s_l7CopyDoc_ok N) fnsOk_nil)))) _ _) Tryz.func55 (by kernel_rfl) rfl N s_l7Of_h (s_l7Of_M N) (by kernel_rfl) (by kernel_rfl) (fun a => by kernel_rfl)
/-! loop.example/fossick/spec.l30Seg -/
def s_l30Seg_arg : Sh := ⟨[.box 900000 0], [(900000, false, [.pv (.sl (.int .u8)), .pv (.int .i64)])]⟩
def s_l30Seg_ret : Sh := ⟨[.tup [.agg [.own 1 .str 9 true, .own 2 (.pair (.sl .str) .str) 98 true], .agg [.tre 3 (.pair (.int .i64) (.pair (.sl (.pair .str .str)) (.sl (.pair .str (.int .i64))))) 102, .tre 4 (.pair .str (.pair .str (.sl (.pair (.int .i64) (.sl (.int .i64)))))) 66]]], [(900000, false, [.pv (.sl (.int .u8)), .pv (.int .i64)])]⟩
def s_l30Seg_h : Hint := .no
def s_l30Seg_m (N : Nat) (b : List Int) (b2 : Int) : Option ((List (List UInt8)) × (List ((List (List UInt8)) × (List UInt8))) × (List (Int × (List ((List UInt8) × (List UInt8))) × (List ((List UInt8) × Int)))) × (List ((List UInt8) × (List UInt8) × (List (Int × (List Int))))) × (List Int) × Int) :=
 (Option.bind (s_l30Conf_m N b b2) fun r =>
 (Option.bind (s_l30Docs_m N r.2.2.1 r.2.2.2) fun r2 =>
 (Option.bind (s_l7Of_m N r.1 r.2.1 r2.1) fun r3 =>
 (some (r.1, r.2.1, r3.1, r3.2, r2.2.1, r2.2.2)))))
def s_l30Seg_M (N : Nat) : Model := ⟨s_l30Seg_arg, s_l30Seg_ret, fun a => s_l30Seg_m N a.1 a.2⟩
set_option maxRecDepth 1000000 in
theorem s_l30Seg_ok (N : Nat) : ModelOk Tryz.prog 51 (s_l30Seg_M N) :=
  modelOk_of (E := mkEnv [(83, s_l30Conf_M N), (84, s_l30Docs_M N), (55, s_l7Of_M N)] [] [900000] [11]) (mkEnv_ok (fnsOk_cons (s_l30Conf_ok N) (fnsOk_cons (s_l30Docs_ok N) (fnsOk_cons (s_l7Of_ok N) fnsOk_nil))) _ _ _) Tryz.func51 (by kernel_rfl) rfl N s_l30Seg_h (s_l30Seg_M N) (by kernel_rfl) (by kernel_rfl) (fun a => by kernel_rfl)
/-! loop.example/fossick/spec.l30AnySeg -/
def s_l30AnySeg_arg : Sh := ⟨[.box 900000 0], [(900000, false, [.pv (.sl (.int .u8)), .pv (.int .i64)])]⟩
def s_l30AnySeg_ret : Sh := ⟨[.tup [.agg [.own 1 .str 9 true, .own 2 (.pair (.sl .str) .str) 98 true], .agg [.pv (.sl (.pair (.int .i64) (.pair (.sl (.pair .str .str)) (.sl (.pair .str (.int .i64)))))), .own 3 (.pair .str (.pair .str (.sl (.pair (.int .i64) (.sl (.int .i64)))))) 66 false]]], [(900000, false, [.pv (.sl (.int .u8)), .pv (.int .i64)])]⟩
def s_l30AnySeg_h : Hint := (.seq .no (.seq .no (.seq (.seq (.touch [.thaw 5 0, .thaw 5 1]) .no) .no)))
def s_l30AnySeg_m (N : Nat) (b : List Int) (b2 : Int) : Option ((List (List UInt8)) × (List ((List (List UInt8)) × (List UInt8))) × (List (Int × (List ((List UInt8) × (List UInt8))) × (List ((List UInt8) × Int)))) × (List ((List UInt8) × (List UInt8) × (List (Int × (List Int))))) × (List Int) × Int) :=
 (Option.bind (s_l30Seg_m N b b2) fun r =>
 (bif (decide ((0 : Int) < (r.2.2.2.1.length : Int))) then
 (Option.bind (s_l30Rd_pick_m N (r.2.2.2.1.length : Int) r.2.2.2.2.1 r.2.2.2.2.2) fun r2 =>
 (Option.bind (s_l30Rd_pick_m N 16 r2.2.1 r2.2.2) fun r3 =>
 (bif (decide (r3.1 = 0)) then
 (if 0 ≤ r2.1 ∧ r2.1 < (r.2.2.2.1.length : Int) then
 (Option.bind (r.2.2.2.1[r2.1.toNat]?) fun e =>
 (some (r.1, r.2.1, r.2.2.1, (r.2.2.2.1.set r2.1.toNat (e.1, ([122, 122, 122] : List UInt8), e.2.2)), r3.2.1, r3.2.2)))
 else none)
 else
 (bif (decide (r3.1 = 1)) then
 (if 0 ≤ r2.1 ∧ r2.1 < (r.2.2.2.1.length : Int) then
 (Option.bind (r.2.2.2.1[r2.1.toNat]?) fun e2 =>
 (if room r.2.2.2.1.length ([e2] : List ((List UInt8) × (List UInt8) × (List (Int × (List Int))))).length 56 then
 (some (r.1, r.2.1, r.2.2.1, (r.2.2.2.1 ++ ([e2] : List ((List UInt8) × (List UInt8) × (List (Int × (List Int)))))), r3.2.1, r3.2.2))
 else none))
 else none)
 else
 (bif (decide (r3.1 = 2)) then
 (Option.bind (cut r.2.2.1 1 (r.2.2.1.length : Int)) fun y =>
 (some (r.1, r.2.1, y, r.2.2.2.1, r3.2.1, r3.2.2)))
 else
 (some (r.1, r.2.1, r.2.2.1, r.2.2.2.1, r3.2.1, r3.2.2)))))))
 else
 (some (r.1, r.2.1, r.2.2.1, r.2.2.2.1, r.2.2.2.2.1, r.2.2.2.2.2))))
def s_l30AnySeg_M (N : Nat) : Model := ⟨s_l30AnySeg_arg, s_l30AnySeg_ret, fun a => s_l30AnySeg_m N a.1 a.2⟩
set_option maxRecDepth 1000000 in
theorem s_l30AnySeg_ok (N : Nat) : ModelOk Tryz.prog 22 (s_l30AnySeg_M N) :=
  modelOk_of (E := mkEnv [(51, s_l30Seg_M N), (52, s_l30Rd_pick_M N)] [39, 40, 46] [900000]) (mkEnv_ok (fnsOk_cons (s_l30Seg_ok N) (fnsOk_cons (s_l30Rd_pick_ok N) fnsOk_nil)) _ _) Tryz.func22 (by kernel_rfl) rfl N s_l30AnySeg_h (s_l30AnySeg_M N) (by kernel_rfl) (by kernel_rfl) (fun a => by kernel_rfl)
/-! loop.example/fossick/spec.l30Field -/
def s_l30Field_arg : Sh := ⟨[.box 900000 0], [(900000, false, [.pv (.sl (.int .u8)), .pv (.int .i64)])]⟩
def s_l30Field_ret : Sh := ⟨[.pv .str], [(900000, false, [.pv (.sl (.int .u8)), .pv (.int .i64)])]⟩
def s_l30Field_h : Hint := .no
def s_l30Field_m (N : Nat) (b : List Int) (b2 : Int) : Option ((List UInt8) × (List Int) × Int) :=
 (Option.bind (s_l30Rd_of_m N ([([98, 111, 100, 121] : List UInt8), ([98, 111, 100, 121] : List UInt8), ([116, 105, 116, 108, 101] : List UInt8), ([110, 111, 110, 101] : List UInt8)] : List (List UInt8)) b b2) fun r =>
 (some (r.1, r.2.1, r.2.2)))
def s_l30Field_M (N : Nat) : Model := ⟨s_l30Field_arg, s_l30Field_ret, fun a => s_l30Field_m N a.1 a.2⟩
set_option maxRecDepth 1000000 in
theorem s_l30Field_ok (N : Nat) : ModelOk Tryz.prog 23 (s_l30Field_M N) :=
  modelOk_of (E := mkEnv [(24, s_l30Rd_of_M N)] [] [900000]) (mkEnv_ok (fnsOk_cons (s_l30Rd_of_ok N) fnsOk_nil) _ _) Tryz.func23 (by kernel_rfl) rfl N s_l30Field_h (s_l30Field_M N) (by kernel_rfl) (by kernel_rfl) (fun a => by kernel_rfl)
/-! loop.example/fossick/spec.DrawSpellOf -/
def s_DrawSpellOf_arg : Sh := ⟨[.pv (.sl (.int .u8))], []⟩
def s_DrawSpellOf_ret : Sh := ⟨[.tup [.agg [.own 1 .str 9 true, .own 2 (.pair (.sl .str) .str) 98 true], .agg [.pv (.sl (.pair (.int .i64) (.pair (.sl (.pair .str .str)) (.sl (.pair .str (.int .i64)))))), .own 3 (.pair .str (.pair .str (.sl (.pair (.int .i64) (.sl (.int .i64)))))) 66 false], .pv .str, .pv .str]], []⟩
def s_DrawSpellOf_h : Hint := .no
def s_DrawSpellOf_m (N : Nat) (code : List Int) : Option ((List (List UInt8)) × (List ((List (List UInt8)) × (List UInt8))) × (List (Int × (List ((List UInt8) × (List UInt8))) × (List ((List UInt8) × Int)))) × (List ((List UInt8) × (List UInt8) × (List (Int × (List Int))))) × (List UInt8) × (List UInt8)) :=
 (Option.bind (s_l30Open_m N code) fun r =>
 (Option.bind (s_l30AnySeg_m N r.1 r.2) fun r2 =>
 (Option.bind (s_l30Field_m N r2.2.2.2.2.1 r2.2.2.2.2.2) fun r3 =>
 (Option.bind (s_l30Rd_of_m N ([([99, 111, 116] : List UInt8), ([100, 117, 103] : List UInt8), ([102, 105, 120] : List UInt8), ([114, 117, 110, 105, 110, 103] : List UInt8), ([122, 122, 122, 122, 122, 122] : List UInt8), ([99, 97, 116, 115] : List UInt8), ([] : List UInt8), ([82, 101, 100] : List UInt8), ([114, 100] : List UInt8)] : List (List UInt8)) r3.2.1 r3.2.2) fun r4 =>
 (some (r2.1, r2.2.1, r2.2.2.1, r2.2.2.2.1, r3.1, r4.1))))))
def s_DrawSpellOf_M (N : Nat) : Model := ⟨s_DrawSpellOf_arg, s_DrawSpellOf_ret, fun a => s_DrawSpellOf_m N a⟩
set_option maxRecDepth 1000000 in
theorem s_DrawSpellOf_ok (N : Nat) : ModelOk Tryz.prog 5 (s_DrawSpellOf_M N) :=
  modelOk_of (E := mkEnv [(21, s_l30Open_M N), (22, s_l30AnySeg_M N), (23, s_l30Field_M N), (24, s_l30Rd_of_M N)] [] []) (mkEnv_ok (fnsOk_cons (s_l30Open_ok N) (fnsOk_cons (s_l30AnySeg_ok N) (fnsOk_cons (s_l30Field_ok N) (fnsOk_cons (s_l30Rd_of_ok N) fnsOk_nil)))) _ _) Tryz.func5 (by kernel_rfl) rfl N s_DrawSpellOf_h (s_DrawSpellOf_M N) (by kernel_rfl) (by kernel_rfl) (fun a => by kernel_rfl)
/-! loop.example/fossick/impl.wordByte -/
def i_wordByte_arg : Sh := ⟨[.pv (.int .u8)], []⟩
def i_wordByte_ret : Sh := ⟨[.pv .bool], []⟩
def i_wordByte_h : Hint := .no
def i_wordByte_m (N : Nat) (b : Int) : Option (Bool) :=
 (bif (decide ((97 : Int) ≤ b)) then
 (bif (decide (b ≤ 122)) then
 (some true)
 else
 (bif (decide ((48 : Int) ≤ b)) then
 (some (decide (b ≤ 57)))
 else
 (some false)))
 else
 (bif (decide ((48 : Int) ≤ b)) then
 (some (decide (b ≤ 57)))
 else
 (some false)))
def i_wordByte_M (N : Nat) : Model := ⟨i_wordByte_arg, i_wordByte_ret, fun a => i_wordByte_m N a⟩
set_option maxRecDepth 1000000 in
theorem i_wordByte_ok (N : Nat) : ModelOk Tryz.prog 36 (i_wordByte_M N) :=
  modelOk_of (E := mkEnv [] [] []) (mkEnv_ok fnsOk_nil _ _) Tryz.func36 (by kernel_rfl) rfl N i_wordByte_h (i_wordByte_M N) (by kernel_rfl) (by kernel_rfl) (fun a => by kernel_rfl)
/-! loop.example/fossick/impl.within -/
def i_within_arg : Sh := ⟨[.pv (.int .i64), .pv (.int .i64), .pv (.int .i64)], []⟩
def i_within_ret : Sh := ⟨[.pv .bool], []⟩
def i_within_h : Hint := .no
def i_within_m (N : Nat) (n : Int) (low : Int) (high : Int) : Option (Bool) :=
 (bif (decide (low ≤ n)) then
 (some (decide (n ≤ high)))
 else
 (some false))
def i_within_M (N : Nat) : Model := ⟨i_within_arg, i_within_ret, fun a => i_within_m N a.1 a.2.1 a.2.2⟩
set_option maxRecDepth 1000000 in
theorem i_within_ok (N : Nat) : ModelOk Tryz.prog 37 (i_within_M N) :=
  modelOk_of (E := mkEnv [] [] []) (mkEnv_ok fnsOk_nil _ _) Tryz.func37 (by kernel_rfl) rfl N i_within_h (i_within_M N) (by kernel_rfl) (by kernel_rfl) (fun a => by kernel_rfl)
/-! loop.example/fossick/impl.WordOk -/
def i_WordOk_arg : Sh := ⟨[.pv .str], []⟩
def i_WordOk_ret : Sh := ⟨[.pv .bool], []⟩
def i_WordOk_s1 : Sh := ⟨.pv .str :: dz 4 (.pv (.int .i64) :: .pv (.int .i64) :: dz 11 []), []⟩
def i_WordOk_h : Hint := (.seq .no (.seq (.seq .no (.block (.loop i_WordOk_s1 .no))) .no))
def i_WordOk_m (N : Nat) (s : List UInt8) : Option (Bool) :=
 (iter (fun go (g : (List UInt8) × Int × Int) =>
 match g with
 | (s2, t5, t6) =>
 (bif (decide (t6 < t5)) then
 (Option.bind (idx s2 t6) fun c =>
 (Option.bind (i_wordByte_m N (c.toNat : Int)) fun r =>
 (bif (!r) then
 (some false)
 else
 (if fits (t6 + 1) then (go (s2, t5, (t6 + 1))) else none))))
 else
 (Option.bind (i_within_m N (s2.length : Int) 1 12) fun r2 =>
 (some r2)))) N (s, (s.length : Int), 0))
def i_WordOk_M (N : Nat) : Model := ⟨i_WordOk_arg, i_WordOk_ret, fun a => i_WordOk_m N a⟩
set_option maxRecDepth 1000000 in
theorem i_WordOk_ok (N : Nat) : ModelOk Tryz.prog 9 (i_WordOk_M N) :=
  modelOk_of (E := mkEnv [(36, i_wordByte_M N), (37, i_within_M N)] [] []) (mkEnv_ok (fnsOk_cons (i_wordByte_ok N) (fnsOk_cons (i_within_ok N) fnsOk_nil)) _ _) Tryz.func9 (by kernel_rfl) rfl N i_WordOk_h (i_WordOk_M N) (by kernel_rfl) (by kernel_rfl) (fun a => by kernel_rfl)
/-! loop.example/fossick/impl.wordsAscend -/
def i_wordsAscend_arg : Sh := ⟨[.pv (.sl .str)], []⟩
def i_wordsAscend_ret : Sh := ⟨[.pv .bool], []⟩
def i_wordsAscend_s1 : Sh := ⟨.pv (.sl .str) :: dz 4 (.pv (.sl .str) :: .pv (.int .i64) :: .pv (.int .i64) :: dz 21 []), []⟩
def i_wordsAscend_h : Hint := (.seq .no (.seq (.seq .no (.block (.loop i_wordsAscend_s1 .no))) .no))
def i_wordsAscend_m (N : Nat) (list : List (List UInt8)) : Option (Bool) :=
 (iter (fun go (g : (List (List UInt8)) × (List (List UInt8)) × Int × Int) =>
 match g with
 | (list2, t5, t6, t7) =>
 (bif (decide (t7 < t6)) then
 (Option.bind (idx t5 t7) fun e =>
 (Option.bind (i_WordOk_m N e) fun r =>
 (bif (!r) then
 (some false)
 else
 (bif (decide ((0 : Int) < t7)) then
 (if fits (t7 - 1) then (Option.bind (idx list2 (t7 - 1)) fun e2 =>
 (bif (!Op.bytesLess e2 e) then
 (some false)
 else
 (if fits (t7 + 1) then (go (list2, t5, t6, (t7 + 1))) else none))) else none)
 else
 (if fits (t7 + 1) then (go (list2, t5, t6, (t7 + 1))) else none)))))
 else
 (some true))) N (list, list, (list.length : Int), 0))
def i_wordsAscend_M (N : Nat) : Model := ⟨i_wordsAscend_arg, i_wordsAscend_ret, fun a => i_wordsAscend_m N a⟩
set_option maxRecDepth 1000000 in
theorem i_wordsAscend_ok (N : Nat) : ModelOk Tryz.prog 61 (i_wordsAscend_M N) :=
  modelOk_of (E := mkEnv [(9, i_WordOk_M N)] [] []) (mkEnv_ok (fnsOk_cons (i_WordOk_ok N) fnsOk_nil) _ _) Tryz.func61 (by kernel_rfl) rfl N i_wordsAscend_h (i_wordsAscend_M N) (by kernel_rfl) (by kernel_rfl) (fun a => by kernel_rfl)
/-! internal/stringslite.HasSuffix -/
def k_internal_stringslite_HasSuffix_arg : Sh := ⟨[.pv .str, .pv .str], []⟩
def k_internal_stringslite_HasSuffix_ret : Sh := ⟨[.pv .bool], []⟩
def k_internal_stringslite_HasSuffix_h : Hint := .no
def k_internal_stringslite_HasSuffix_m (N : Nat) (s : List UInt8) (suffix : List UInt8) : Option (Bool) :=
 (bif (decide ((suffix.length : Int) ≤ (s.length : Int))) then
 (if fits ((s.length : Int) - (suffix.length : Int)) then (Option.bind (cut s ((s.length : Int) - (suffix.length : Int)) (s.length : Int)) fun y =>
 (some (decide (y = suffix)))) else none)
 else
 (some false))
def k_internal_stringslite_HasSuffix_M (N : Nat) : Model := ⟨k_internal_stringslite_HasSuffix_arg, k_internal_stringslite_HasSuffix_ret, fun a => k_internal_stringslite_HasSuffix_m N a.1 a.2⟩
set_option maxRecDepth 1000000 in
theorem k_internal_stringslite_HasSuffix_ok (N : Nat) : ModelOk Tryz.prog 73 (k_internal_stringslite_HasSuffix_M N) :=
  modelOk_of (E := mkEnv [] [] []) (mkEnv_ok fnsOk_nil _ _) Tryz.func73 (by kernel_rfl) rfl N k_internal_stringslite_HasSuffix_h (k_internal_stringslite_HasSuffix_M N) (by kernel_rfl) (by kernel_rfl) (fun a => by kernel_rfl)
/-! strings.HasSuffix -/
def k_strings_HasSuffix_arg : Sh := ⟨[.pv .str, .pv .str], []⟩
def k_strings_HasSuffix_ret : Sh := ⟨[.pv .bool], []⟩
def k_strings_HasSuffix_h : Hint := .no
def k_strings_HasSuffix_m (N : Nat) (s : List UInt8) (suffix : List UInt8) : Option (Bool) :=
 (Option.bind (k_internal_stringslite_HasSuffix_m N s suffix) fun r =>
 (some r))
def k_strings_HasSuffix_M (N : Nat) : Model := ⟨k_strings_HasSuffix_arg, k_strings_HasSuffix_ret, fun a => k_strings_HasSuffix_m N a.1 a.2⟩
set_option maxRecDepth 1000000 in
theorem k_strings_HasSuffix_ok (N : Nat) : ModelOk Tryz.prog 38 (k_strings_HasSuffix_M N) :=
  modelOk_of (E := mkEnv [(73, k_internal_stringslite_HasSuffix_M N)] [] []) (mkEnv_ok (fnsOk_cons (k_internal_stringslite_HasSuffix_ok N) fnsOk_nil) _ _) Tryz.func38 (by kernel_rfl) rfl N k_strings_HasSuffix_h (k_strings_HasSuffix_M N) (by kernel_rfl) (by kernel_rfl) (fun a => by kernel_rfl)
/-! loop.example/fossick/impl.StemOf -/
def i_StemOf_arg : Sh := ⟨[.pv .str], []⟩
def i_StemOf_ret : Sh := ⟨[.pv .str], []⟩
def i_StemOf_s1 : Sh := ⟨.pv .str :: .dead :: .dead :: .pv .bool :: dz 32 [], []⟩
def i_StemOf_s2 : Sh := ⟨.pv .str :: .dead :: .dead :: .pv .bool :: dz 6 (.own 600010 .str 9 true :: .pv (.int .i64) :: .pv (.int .i64) :: dz 23 []), []⟩
def i_StemOf_h : Hint := (.seq .no (.seq .no (.seq (.seq .no (.block (.loop i_StemOf_s1 (.seq .no (.block (.seq .no (.seq .no (.block (.loop i_StemOf_s2 .no))))))))) .no)))
def i_StemOf_m (N : Nat) (s : List UInt8) : Option ((List UInt8)) :=
 (Option.bind (i_WordOk_m N s) fun r =>
 (bif (!r) then
 (some ([] : List UInt8))
 else
 (iter (fun go (g : (List UInt8) × Bool) =>
 match g with
 | (s2, again) =>
 (bif again then
 (iter (fun go2 (g : (List UInt8) × Bool × (List (List UInt8)) × Int × Int) =>
 match g with
 | (s3, again2, t10, t11, t12) =>
 (bif (decide (t12 < t11)) then
 (Option.bind (idx t10 t12) fun e =>
 (Option.bind (k_strings_HasSuffix_m N s3 e) fun r2 =>
 (bif r2 then
 (if fits ((s3.length : Int) - (e.length : Int)) then (bif (decide ((3 : Int) ≤ ((s3.length : Int) - (e.length : Int)))) then
 (if fits ((s3.length : Int) - (e.length : Int)) then (Option.bind (cut s3 0 ((s3.length : Int) - (e.length : Int))) fun y =>
 (go (y, true))) else none)
 else
 (if fits (t12 + 1) then (go2 (s3, again2, t10, t11, (t12 + 1))) else none)) else none)
 else
 (if fits (t12 + 1) then (go2 (s3, again2, t10, t11, (t12 + 1))) else none))))
 else
 (go (s3, again2)))) N (s2, false, ([([105, 110, 103] : List UInt8), ([101, 100] : List UInt8), ([101, 115] : List UInt8), ([108, 121] : List UInt8), ([115] : List UInt8)] : List (List UInt8)), (([([105, 110, 103] : List UInt8), ([101, 100] : List UInt8), ([101, 115] : List UInt8), ([108, 121] : List UInt8), ([115] : List UInt8)] : List (List UInt8)).length : Int), 0))
 else
 (some s2))) N (s, true))))
def i_StemOf_M (N : Nat) : Model := ⟨i_StemOf_arg, i_StemOf_ret, fun a => i_StemOf_m N a⟩
set_option maxRecDepth 1000000 in
theorem i_StemOf_ok (N : Nat) : ModelOk Tryz.prog 10 (i_StemOf_M N) :=
  modelOk_of (E := mkEnv [(9, i_WordOk_M N), (38, k_strings_HasSuffix_M N)] [] []) (mkEnv_ok (fnsOk_cons (i_WordOk_ok N) (fnsOk_cons (k_strings_HasSuffix_ok N) fnsOk_nil)) _ _) Tryz.func10 (by kernel_rfl) rfl N i_StemOf_h (i_StemOf_M N) (by kernel_rfl) (by kernel_rfl) (fun a => by kernel_rfl)
/-! slices.Index[[]string,string] -/
def k_slices_Index_82_arg : Sh := ⟨[.pv (.sl .str), .pv .str], []⟩
def k_slices_Index_82_ret : Sh := ⟨[.pv (.int .i64)], []⟩
def k_slices_Index_82_s1 : Sh := ⟨.pv (.sl .str) :: .pv .str :: dz 5 (.pv (.int .i64) :: .pv (.int .i64) :: dz 10 []), []⟩
def k_slices_Index_82_h : Hint := (.seq .no (.seq (.seq .no (.block (.loop k_slices_Index_82_s1 .no))) .no))
def k_slices_Index_82_m (N : Nat) (s : List (List UInt8)) (v : List UInt8) : Option (Int) :=
 (iter (fun go (g : (List (List UInt8)) × (List UInt8) × Int × Int) =>
 match g with
 | (s2, v2, t7, t8) =>
 (bif (decide (t8 < t7)) then
 (Option.bind (idx s2 t8) fun e =>
 (bif (decide (v2 = e)) then
 (some t8)
 else
 (if fits (t8 + 1) then (go (s2, v2, t7, (t8 + 1))) else none)))
 else
 (some (-1)))) N (s, v, (s.length : Int), 0))
def k_slices_Index_82_M (N : Nat) : Model := ⟨k_slices_Index_82_arg, k_slices_Index_82_ret, fun a => k_slices_Index_82_m N a.1 a.2⟩
set_option maxRecDepth 1000000 in
theorem k_slices_Index_82_ok (N : Nat) : ModelOk Tryz.prog 93 (k_slices_Index_82_M N) :=
  modelOk_of (E := mkEnv [] [] []) (mkEnv_ok fnsOk_nil _ _) Tryz.func93 (by kernel_rfl) rfl N k_slices_Index_82_h (k_slices_Index_82_M N) (by kernel_rfl) (by kernel_rfl) (fun a => by kernel_rfl)
/-! slices.Contains[[]string,string] -/
def k_slices_Contains_148_arg : Sh := ⟨[.pv (.sl .str), .pv .str], []⟩
def k_slices_Contains_148_ret : Sh := ⟨[.pv .bool], []⟩
def k_slices_Contains_148_h : Hint := .no
def k_slices_Contains_148_m (N : Nat) (s : List (List UInt8)) (v : List UInt8) : Option (Bool) :=
 (Option.bind (k_slices_Index_82_m N s v) fun r =>
 (some (decide ((0 : Int) ≤ r))))
def k_slices_Contains_148_M (N : Nat) : Model := ⟨k_slices_Contains_148_arg, k_slices_Contains_148_ret, fun a => k_slices_Contains_148_m N a.1 a.2⟩
set_option maxRecDepth 1000000 in
theorem k_slices_Contains_148_ok (N : Nat) : ModelOk Tryz.prog 62 (k_slices_Contains_148_M N) :=
  modelOk_of (E := mkEnv [(93, k_slices_Index_82_M N)] [] []) (mkEnv_ok (fnsOk_cons (k_slices_Index_82_ok N) fnsOk_nil) _ _) Tryz.func62 (by kernel_rfl) rfl N k_slices_Contains_148_h (k_slices_Contains_148_M N) (by kernel_rfl) (by kernel_rfl) (fun a => by kernel_rfl)
/-! loop.example/fossick/impl.ConfOk -/
def i_ConfOk_arg : Sh := ⟨[.agg [.pv (.sl .str), .pv (.sl (.pair (.sl .str) .str))]], []⟩
def i_ConfOk_ret : Sh := ⟨[.pv .bool], []⟩
def i_ConfOk_s1 : Sh := ⟨.dead :: .box 1 0 :: dz 22 (.pv Y11 :: .pv (.int .i64) :: .pv (.int .i64) :: dz 46 []), [(1, false, [.pv (.sl .str), .pv Y11])]⟩
def i_ConfOk_s2 : Sh := ⟨.dead :: .box 1 0 :: dz 22 (.pv Y11 :: .pv (.int .i64) :: .pv (.int .i64) :: dz 12 (.pv .bool :: dz 7 (.pv .bool :: .dead :: .dead :: .pv (.sl .str) :: .pv (.int .i64) :: .pv (.int .i64) :: dz 20 []))), [(1, false, [.pv (.sl .str), .pv Y11])]⟩
def i_ConfOk_h : Hint := (.seq .no (.seq .no (.seq (.seq .no (.block (.loop i_ConfOk_s1 (.seq .no (.seq .no (.seq (.block (.seq .no (.seq .no (.seq .no (.block (.loop i_ConfOk_s2 .no)))))) .no)))))) .no)))
def i_ConfOk_m (N : Nat) (c : List (List UInt8)) (c2 : List ((List (List UInt8)) × (List UInt8))) : Option (Bool) :=
 (bif (decide ((6 : Int) < (c.length : Int))) then
 (some false)
 else
 (Option.bind (i_wordsAscend_m N c) fun r =>
 (bif (!r) then
 (some false)
 else
 (bif (decide ((4 : Int) < (c2.length : Int))) then
 (some false)
 else
 (iter (fun go (g : (List ((List (List UInt8)) × (List UInt8))) × Int × Int × (List (List UInt8)) × (List ((List (List UInt8)) × (List UInt8)))) =>
 match g with
 | (t24, t25, t26, c3, c4) =>
 (bif (decide (t26 < t25)) then
 (Option.bind (idx t24 t26) fun e =>
 (Option.bind (i_within_m N (e.1.length : Int) 1 3) fun r2 =>
 (bif (!r2) then
 (some false)
 else
 (Option.bind (i_WordOk_m N e.2) fun r3 =>
 (bif (!r3) then
 (some false)
 else
 (Option.bind (i_StemOf_m N e.2) fun r4 =>
 (bif (!decide (r4 = e.2)) then
 (some false)
 else
 (iter (fun go2 (g : (List ((List (List UInt8)) × (List UInt8))) × Int × Int × Bool × Bool × (List (List UInt8)) × Int × Int × (List (List UInt8)) × (List ((List (List UInt8)) × (List UInt8)))) =>
 match g with
 | (t242, t252, t262, t39, t47, t50, t51, t52, c5, c6) =>
 (bif (decide (t52 < t51)) then
 (Option.bind (idx t50 t52) fun e2 =>
 (Option.bind (i_WordOk_m N e2) fun r5 =>
 (bif (!r5) then
 (some false)
 else
 (Option.bind (i_StemOf_m N e2) fun r6 =>
 (bif (!decide (r6 = e2)) then
 (some false)
 else
 (Option.bind (k_slices_Contains_148_m N c5 e2) fun r7 =>
 (bif r7 then
 (some false)
 else
 (if fits (t52 + 1) then (go2 (t242, t252, t262, t39, t47, t50, t51, (t52 + 1), c5, c6)) else none))))))))
 else
 (if fits (t262 + 1) then (go (t242, t252, (t262 + 1), c5, c6)) else none))) N (t24, t25, t26, (!r3), (!decide (r4 = e.2)), e.1, (e.1.length : Int), 0, c3, c4)))))))))
 else
 (some true))) N (c2, (c2.length : Int), 0, c, c2))))))
def i_ConfOk_M (N : Nat) : Model := ⟨i_ConfOk_arg, i_ConfOk_ret, fun a => i_ConfOk_m N a.1 a.2⟩
set_option maxRecDepth 1000000 in
theorem i_ConfOk_ok (N : Nat) : ModelOk Tryz.prog 31 (i_ConfOk_M N) :=
  modelOk_of (E := mkEnv [(61, i_wordsAscend_M N), (37, i_within_M N), (9, i_WordOk_M N), (10, i_StemOf_M N), (62, k_slices_Contains_148_M N)] [] []) (mkEnv_ok (fnsOk_cons (i_wordsAscend_ok N) (fnsOk_cons (i_within_ok N) (fnsOk_cons (i_WordOk_ok N) (fnsOk_cons (i_StemOf_ok N) (fnsOk_cons (k_slices_Contains_148_ok N) fnsOk_nil))))) _ _) Tryz.func31 (by kernel_rfl) rfl N i_ConfOk_h (i_ConfOk_M N) (by kernel_rfl) (by kernel_rfl) (fun a => by kernel_rfl)
/-! loop.example/fossick/impl.TextOk -/
def i_TextOk_arg : Sh := ⟨[.pv .str], []⟩
def i_TextOk_ret : Sh := ⟨[.pv .bool], []⟩
def i_TextOk_s1 : Sh := ⟨.pv .str :: dz 4 (.pv (.int .i64) :: .pv (.int .i64) :: dz 16 []), []⟩
def i_TextOk_h : Hint := (.seq .no (.seq (.seq .no (.block (.loop i_TextOk_s1 .no))) .no))
def i_TextOk_m (N : Nat) (s : List UInt8) : Option (Bool) :=
 (iter (fun go (g : (List UInt8) × Int × Int) =>
 match g with
 | (s2, t5, t6) =>
 (bif (decide (t6 < t5)) then
 (Option.bind (idx s2 t6) fun c =>
 (bif (decide ((c.toNat : Int) < 32)) then
 (some false)
 else
 (Option.bind (idx s2 t6) fun c2 =>
 (bif (decide ((126 : Int) < (c2.toNat : Int))) then
 (some false)
 else
 (if fits (t6 + 1) then (go (s2, t5, (t6 + 1))) else none)))))
 else
 (some (decide ((s2.length : Int) ≤ 160))))) N (s, (s.length : Int), 0))
def i_TextOk_M (N : Nat) : Model := ⟨i_TextOk_arg, i_TextOk_ret, fun a => i_TextOk_m N a⟩
set_option maxRecDepth 1000000 in
theorem i_TextOk_ok (N : Nat) : ModelOk Tryz.prog 94 (i_TextOk_M N) :=
  modelOk_of (E := mkEnv [] [] []) (mkEnv_ok fnsOk_nil _ _) Tryz.func94 (by kernel_rfl) rfl N i_TextOk_h (i_TextOk_M N) (by kernel_rfl) (by kernel_rfl) (fun a => by kernel_rfl)
/-! loop.example/fossick/impl.DocOk -/
def i_DocOk_arg : Sh := ⟨[.agg [.pv (.int .i64), .pv (.sl (.pair .str .str)), .pv (.sl (.pair .str (.int .i64)))]], []⟩
def i_DocOk_ret : Sh := ⟨[.pv .bool], []⟩
def i_DocOk_s1 : Sh := ⟨.dead :: .box 1 0 :: dz 22 (.pv Y13 :: .pv (.int .i64) :: .pv (.int .i64) :: dz 66 []), [(1, false, [.pv (.int .i64), .pv Y13, .pv Y10])]⟩
def i_DocOk_s2 : Sh := ⟨.dead :: .box 1 0 :: dz 57 (.pv Y10 :: .pv (.int .i64) :: .pv (.int .i64) :: dz 31 []), [(1, false, [.pv (.int .i64), .pv Y13, .pv Y10])]⟩
def i_DocOk_h : Hint := (.seq .no (.seq .no (.seq (.seq .no (.block (.loop i_DocOk_s1 .no))) (.seq (.seq .no (.block (.loop i_DocOk_s2 .no))) .no))))
def i_DocOk_m (N : Nat) (d : Int) (d2 : List ((List UInt8) × (List UInt8))) (d3 : List ((List UInt8) × Int)) : Option (Bool) :=
 (Option.bind (i_within_m N d 1 9999) fun r =>
 (bif (!r) then
 (some false)
 else
 (bif (decide ((3 : Int) < (d2.length : Int))) then
 (some false)
 else
 (bif (decide ((3 : Int) < (d3.length : Int))) then
 (some false)
 else
 (iter (fun go (g : (List ((List UInt8) × (List UInt8))) × Int × Int × Int × (List ((List UInt8) × (List UInt8))) × (List ((List UInt8) × Int))) =>
 match g with
 | (t24, t25, t26, d4, d5, d6) =>
 (bif (decide (t26 < t25)) then
 (Option.bind (idx t24 t26) fun e =>
 (Option.bind (i_WordOk_m N e.1) fun r2 =>
 (bif (!r2) then
 (some false)
 else
 (Option.bind (i_TextOk_m N e.2) fun r3 =>
 (bif (!r3) then
 (some false)
 else
 (bif (decide ((0 : Int) < t26)) then
 (if fits (t26 - 1) then (Option.bind (idx d5 (t26 - 1)) fun e2 =>
 (bif (!Op.bytesLess e2.1 e.1) then
 (some false)
 else
 (if fits (t26 + 1) then (go (t24, t25, (t26 + 1), d4, d5, d6)) else none))) else none)
 else
 (if fits (t26 + 1) then (go (t24, t25, (t26 + 1), d4, d5, d6)) else none)))))))
 else
 (iter (fun go2 (g : (List ((List UInt8) × Int)) × Int × Int × Int × (List ((List UInt8) × (List UInt8))) × (List ((List UInt8) × Int))) =>
 match g with
 | (t59, t60, t61, d7, d8, d9) =>
 (bif (decide (t61 < t60)) then
 (Option.bind (idx t59 t61) fun e3 =>
 (Option.bind (i_WordOk_m N e3.1) fun r4 =>
 (bif (!r4) then
 (some false)
 else
 (Option.bind (i_within_m N e3.2 0 999999999) fun r5 =>
 (bif (!r5) then
 (some false)
 else
 (bif (decide ((0 : Int) < t61)) then
 (if fits (t61 - 1) then (Option.bind (idx d9 (t61 - 1)) fun e4 =>
 (bif (!Op.bytesLess e4.1 e3.1) then
 (some false)
 else
 (if fits (t61 + 1) then (go2 (t59, t60, (t61 + 1), d7, d8, d9)) else none))) else none)
 else
 (if fits (t61 + 1) then (go2 (t59, t60, (t61 + 1), d7, d8, d9)) else none)))))))
 else
 (some true))) N (d6, (d6.length : Int), 0, d4, d5, d6)))) N (d2, (d2.length : Int), 0, d, d2, d3))))))
def i_DocOk_M (N : Nat) : Model := ⟨i_DocOk_arg, i_DocOk_ret, fun a => i_DocOk_m N a.1 a.2.1 a.2.2⟩
set_option maxRecDepth 1000000 in
theorem i_DocOk_ok (N : Nat) : ModelOk Tryz.prog 63 (i_DocOk_M N) :=
  modelOk_of (E := mkEnv [(37, i_within_M N), (9, i_WordOk_M N), (94, i_TextOk_M N)] [] []) (mkEnv_ok (fnsOk_cons (i_within_ok N) (fnsOk_cons (i_WordOk_ok N) (fnsOk_cons (i_TextOk_ok N) fnsOk_nil))) _ _) Tryz.func63 (by kernel_rfl) rfl N i_DocOk_h (i_DocOk_M N) (by kernel_rfl) (by kernel_rfl) (fun a => by kernel_rfl)
/-! loop.example/fossick/impl.DocsOk -/
def i_DocsOk_arg : Sh := ⟨[.pv (.sl (.pair (.int .i64) (.pair (.sl (.pair .str .str)) (.sl (.pair .str (.int .i64))))))], []⟩
def i_DocsOk_ret : Sh := ⟨[.pv .bool], []⟩
def i_DocsOk_s1 : Sh := ⟨.pv Y0 :: dz 4 (.pv Y0 :: .pv (.int .i64) :: .pv (.int .i64) :: dz 26 []), []⟩
def i_DocsOk_h : Hint := (.seq .no (.seq (.seq .no (.block (.loop i_DocsOk_s1 .no))) .no))
def i_DocsOk_m (N : Nat) (list : List (Int × (List ((List UInt8) × (List UInt8))) × (List ((List UInt8) × Int)))) : Option (Bool) :=
 (iter (fun go (g : (List (Int × (List ((List UInt8) × (List UInt8))) × (List ((List UInt8) × Int)))) × (List (Int × (List ((List UInt8) × (List UInt8))) × (List ((List UInt8) × Int)))) × Int × Int) =>
 match g with
 | (list2, t5, t6, t7) =>
 (bif (decide (t7 < t6)) then
 (Option.bind (idx t5 t7) fun e =>
 (Option.bind (i_DocOk_m N e.1 e.2.1 e.2.2) fun r =>
 (bif (!r) then
 (some false)
 else
 (bif (decide ((0 : Int) < t7)) then
 (if fits (t7 - 1) then (Option.bind (idx list2 (t7 - 1)) fun e2 =>
 (bif (decide (e.1 ≤ e2.1)) then
 (some false)
 else
 (if fits (t7 + 1) then (go (list2, t5, t6, (t7 + 1))) else none))) else none)
 else
 (if fits (t7 + 1) then (go (list2, t5, t6, (t7 + 1))) else none)))))
 else
 (some (decide ((list2.length : Int) ≤ 16))))) N (list, list, (list.length : Int), 0))
def i_DocsOk_M (N : Nat) : Model := ⟨i_DocsOk_arg, i_DocsOk_ret, fun a => i_DocsOk_m N a⟩
set_option maxRecDepth 1000000 in
theorem i_DocsOk_ok (N : Nat) : ModelOk Tryz.prog 32 (i_DocsOk_M N) :=
  modelOk_of (E := mkEnv [(63, i_DocOk_M N)] [] []) (mkEnv_ok (fnsOk_cons (i_DocOk_ok N) fnsOk_nil) _ _) Tryz.func32 (by kernel_rfl) rfl N i_DocsOk_h (i_DocsOk_M N) (by kernel_rfl) (by kernel_rfl) (fun a => by kernel_rfl)
/-! loop.example/fossick/impl.cloneDoc -/
def i_cloneDoc_arg : Sh := ⟨[.agg [.pv (.int .i64), .pv (.sl (.pair .str .str)), .pv (.sl (.pair .str (.int .i64)))]], []⟩
def i_cloneDoc_ret : Sh := ⟨[.agg [.pv (.int .i64), .own 1 (.pair .str .str) 106 true, .own 2 (.pair .str (.int .i64)) 143 true]], []⟩
def i_cloneDoc_h : Hint := .no
def i_cloneDoc_m (N : Nat) (d : Int) (d2 : List ((List UInt8) × (List UInt8))) (d3 : List ((List UInt8) × Int)) : Option (Int × (List ((List UInt8) × (List UInt8))) × (List ((List UInt8) × Int))) :=
 (if room ([] : List ((List UInt8) × (List UInt8))).length d2.length 32 then
 (if room ([] : List ((List UInt8) × Int)).length d3.length 24 then
 (some (d, (([] : List ((List UInt8) × (List UInt8))) ++ d2), (([] : List ((List UInt8) × Int)) ++ d3)))
 else none)
 else none)
def i_cloneDoc_M (N : Nat) : Model := ⟨i_cloneDoc_arg, i_cloneDoc_ret, fun a => i_cloneDoc_m N a.1 a.2.1 a.2.2⟩
set_option maxRecDepth 1000000 in
theorem i_cloneDoc_ok (N : Nat) : ModelOk Tryz.prog 95 (i_cloneDoc_M N) :=
  modelOk_of (E := mkEnv [] [] []) (mkEnv_ok fnsOk_nil _ _) Tryz.func95 (by kernel_rfl) rfl N i_cloneDoc_h (i_cloneDoc_M N) (by kernel_rfl) (by kernel_rfl) (fun a => by kernel_rfl)
/-! loop.example/fossick/impl.cloneDocs -/
def i_cloneDocs_arg : Sh := ⟨[.pv (.sl (.pair (.int .i64) (.pair (.sl (.pair .str .str)) (.sl (.pair .str (.int .i64))))))], []⟩
def i_cloneDocs_ret : Sh := ⟨[.own 1 (.pair (.int .i64) (.pair (.sl (.pair .str .str)) (.sl (.pair .str (.int .i64))))) 102 true], []⟩
def i_cloneDocs_s1 : Sh := ⟨dz 3 (.own 600003 Y1 102 true :: dz 3 (.pv Y0 :: .pv (.int .i64) :: .pv (.int .i64) :: dz 10 [])), []⟩
def i_cloneDocs_h : Hint := (.seq .no (.seq .no (.seq (.seq .no (.block (.loop i_cloneDocs_s1 .no))) .no)))
def i_cloneDocs_m (N : Nat) (list : List (Int × (List ((List UInt8) × (List UInt8))) × (List ((List UInt8) × Int)))) : Option ((List (Int × (List ((List UInt8) × (List UInt8))) × (List ((List UInt8) × Int))))) :=
 (iter (fun go (g : (List (Int × (List ((List UInt8) × (List UInt8))) × (List ((List UInt8) × Int)))) × (List (Int × (List ((List UInt8) × (List UInt8))) × (List ((List UInt8) × Int)))) × Int × Int) =>
 match g with
 | (out, t7, t8, t9) =>
 (bif (decide (t9 < t8)) then
 (Option.bind (idx t7 t9) fun e =>
 (Option.bind (i_cloneDoc_m N e.1 e.2.1 e.2.2) fun r =>
 (if room out.length ([r] : List (Int × (List ((List UInt8) × (List UInt8))) × (List ((List UInt8) × Int)))).length 56 then
 (if fits (t9 + 1) then (go ((out ++ ([r] : List (Int × (List ((List UInt8) × (List UInt8))) × (List ((List UInt8) × Int))))), t7, t8, (t9 + 1))) else none)
 else none)))
 else
 (some out))) N (([] : List (Int × (List ((List UInt8) × (List UInt8))) × (List ((List UInt8) × Int)))), list, (list.length : Int), 0))
def i_cloneDocs_M (N : Nat) : Model := ⟨i_cloneDocs_arg, i_cloneDocs_ret, fun a => i_cloneDocs_m N a⟩
set_option maxRecDepth 1000000 in
theorem i_cloneDocs_ok (N : Nat) : ModelOk Tryz.prog 64 (i_cloneDocs_M N) :=
  modelOk_of (E := mkEnv [(95, i_cloneDoc_M N)] [] []) (mkEnv_ok (fnsOk_cons (i_cloneDoc_ok N) fnsOk_nil) _ _) Tryz.func64 (by kernel_rfl) rfl N i_cloneDocs_h (i_cloneDocs_M N) (by kernel_rfl) (by kernel_rfl) (fun a => by kernel_rfl)
/-! loop.example/fossick/impl.lower -/
def i_lower_arg : Sh := ⟨[.pv (.int .u8)], []⟩
def i_lower_ret : Sh := ⟨[.pv (.int .u8)], []⟩
def i_lower_h : Hint := .no
def i_lower_m (N : Nat) (b : Int) : Option (Int) :=
 (bif (decide ((65 : Int) ≤ b)) then
 (bif (decide (b ≤ 90)) then
 (some (IntKind.u8.wrap ((IntKind.u8.wrap (b + 97)) - 65)))
 else
 (some b))
 else
 (some b))
def i_lower_M (N : Nat) : Model := ⟨i_lower_arg, i_lower_ret, fun a => i_lower_m N a⟩
set_option maxRecDepth 1000000 in
theorem i_lower_ok (N : Nat) : ModelOk Tryz.prog 119 (i_lower_M N) :=
  modelOk_of (E := mkEnv [] [] []) (mkEnv_ok fnsOk_nil _ _) Tryz.func119 (by kernel_rfl) rfl N i_lower_h (i_lower_M N) (by kernel_rfl) (by kernel_rfl) (fun a => by kernel_rfl)
/-! loop.example/fossick/impl.WordsOf -/
def i_WordsOf_arg : Sh := ⟨[.pv .str], []⟩
def i_WordsOf_ret : Sh := ⟨[.own 1 (.pair .str (.pair (.int .i64) (.pair (.int .i64) (.int .i64)))) 147 true], []⟩
def i_WordsOf_s1 : Sh := ⟨.pv .str :: .dead :: .dead :: .own 600003 Y4 147 true :: .pv (.int .i64) :: dz 57 [], []⟩
def i_WordsOf_s2 : Sh := ⟨.pv .str :: .dead :: .dead :: .own 600003 Y4 147 true :: .pv (.int .i64) :: .box 5 0 :: .own 600006 (.int .u8) 5 true :: dz 55 [], [(5, false, [.pv .str, .pv (.int .i64), .pv (.int .i64), .pv (.int .i64)])]⟩
def i_WordsOf_h : Hint := (.seq .no (.seq .no (.seq .no (.seq (.seq .no (.block (.loop i_WordsOf_s1 (.seq .no (.block (.seq .no (.seq .no (.seq .no (.seq (.block (.loop i_WordsOf_s2 .no)) .no))))))))) .no))))
def i_WordsOf_m (N : Nat) (s : List UInt8) : Option ((List ((List UInt8) × Int × Int × Int))) :=
 (Option.bind (i_TextOk_m N s) fun r =>
 (bif (!r) then
 (some ([] : List ((List UInt8) × Int × Int × Int)))
 else
 (iter (fun go (g : (List UInt8) × (List ((List UInt8) × Int × Int × Int)) × Int) =>
 match g with
 | (s2, out, at0) =>
 (bif (decide (at0 < (s2.length : Int))) then
 (Option.bind (idx s2 at0) fun c =>
 (Option.bind (i_lower_m N (c.toNat : Int)) fun r2 =>
 (Option.bind (i_wordByte_m N r2) fun r3 =>
 (bif (!r3) then
 (if fits (at0 + 1) then (go (s2, out, (at0 + 1))) else none)
 else
 (iter (fun go2 (g : (List UInt8) × (List ((List UInt8) × Int × Int × Int)) × Int × (List Int) × (List UInt8) × Int × Int × Int) =>
 match g with
 | (s3, out2, at02, text, w, w2, w3, w4) =>
 (bif (decide (at02 < (s3.length : Int))) then
 (Option.bind (idx s3 at02) fun c2 =>
 (Option.bind (i_lower_m N (c2.toNat : Int)) fun r4 =>
 (Option.bind (i_wordByte_m N r4) fun r5 =>
 (bif r5 then
 (bif (decide ((text.length : Int) < 12)) then
 (Option.bind (idx s3 at02) fun c3 =>
 (Option.bind (i_lower_m N (c3.toNat : Int)) fun r6 =>
 (if room text.length ([r6] : List Int).length 1 then
 (if fits (at02 + 1) then (go2 (s3, out2, (at02 + 1), (text ++ ([r6] : List Int)), w, w2, w3, w4)) else none)
 else none)))
 else
 (if fits (at02 + 1) then (go2 (s3, out2, (at02 + 1), text, w, w2, w3, w4)) else none))
 else
 (if room out2.length ([((bytesOf text), w2, w3, at02)] : List ((List UInt8) × Int × Int × Int)).length 40 then
 (go (s3, (out2 ++ ([((bytesOf text), w2, w3, at02)] : List ((List UInt8) × Int × Int × Int))), at02))
 else none)))))
 else
 (if room out2.length ([((bytesOf text), w2, w3, at02)] : List ((List UInt8) × Int × Int × Int)).length 40 then
 (go (s3, (out2 ++ ([((bytesOf text), w2, w3, at02)] : List ((List UInt8) × Int × Int × Int))), at02))
 else none))) N (s2, out, at0, ([] : List Int), ([] : List UInt8), (out.length : Int), at0, 0))))))
 else
 (some out))) N (s, ([] : List ((List UInt8) × Int × Int × Int)), 0))))
def i_WordsOf_M (N : Nat) : Model := ⟨i_WordsOf_arg, i_WordsOf_ret, fun a => i_WordsOf_m N a⟩
set_option maxRecDepth 1000000 in
theorem i_WordsOf_ok (N : Nat) : ModelOk Tryz.prog 96 (i_WordsOf_M N) :=
  modelOk_of (E := mkEnv [(94, i_TextOk_M N), (119, i_lower_M N), (36, i_wordByte_M N)] [] []) (mkEnv_ok (fnsOk_cons (i_TextOk_ok N) (fnsOk_cons (i_lower_ok N) (fnsOk_cons (i_wordByte_ok N) fnsOk_nil))) _ _) Tryz.func96 (by kernel_rfl) rfl N i_WordsOf_h (i_WordsOf_M N) (by kernel_rfl) (by kernel_rfl) (fun a => by kernel_rfl)
/-! loop.example/fossick/impl.ruleAt -/
def i_ruleAt_arg : Sh := ⟨[.agg [.pv (.sl .str), .pv (.sl (.pair (.sl .str) .str))], .pv (.sl (.pair .str (.int .i64))), .pv (.int .i64)], []⟩
def i_ruleAt_ret : Sh := ⟨[.pv (.opt (.pair (.sl .str) .str))], []⟩
def i_ruleAt_s1 : Sh := ⟨.dead :: .pv Y10 :: .pv (.int .i64) :: .box 3 0 :: dz 3 (.pv (.opt Y14) :: dz 8 (.pv (.int .i64) :: .pv (.int .i64) :: dz 73 [])), [(3, false, [.pv (.sl .str), .pv Y11])]⟩
def i_ruleAt_s2 : Sh := ⟨.dead :: .pv Y10 :: .pv (.int .i64) :: .box 3 0 :: dz 3 (.pv (.opt Y14) :: .dead :: .ptr Y14 :: .pv .bool :: dz 5 (.pv (.int .i64) :: .pv (.int .i64) :: dz 31 (.pv .bool :: dz 4 (.pv (.sl .str) :: .pv (.int .i64) :: .pv (.int .i64) :: dz 34 [])))), [(3, false, [.pv (.sl .str), .pv Y11])]⟩
def i_ruleAt_h : Hint := (.seq .no (.seq .no (.seq (.seq .no (.block (.loop i_ruleAt_s1 (.seq .no (.seq .no (.seq (.block (.seq .no (.seq .no (.seq .no (.seq .no (.seq (.seq .no (.block (.loop i_ruleAt_s2 .no))) .no)))))) .no)))))) .no)))
def i_ruleAt_m (N : Nat) (c : List (List UInt8)) (c2 : List ((List (List UInt8)) × (List UInt8))) (terms : List ((List UInt8) × Int)) (at0 : Int) : Option ((Option ((List (List UInt8)) × (List UInt8)))) :=
 (iter (fun go (g : (List ((List UInt8) × Int)) × Int × (Option ((List (List UInt8)) × (List UInt8))) × Int × Int × (List (List UInt8)) × (List ((List (List UInt8)) × (List UInt8)))) =>
 match g with
 | (terms2, at02, best, t16, t17, c3, c4) =>
 (bif (decide (t17 < t16)) then
 (Option.bind (idx c4 t17) fun e =>
 (if fits ((terms2.length : Int) - at02) then (bif (decide (((terms2.length : Int) - at02) < (e.1.length : Int))) then
 (if fits (t17 + 1) then (go (terms2, at02, best, t16, (t17 + 1), c3, c4)) else none)
 else
 (bif (!(Option.isNone best)) then
 (Option.bind best fun p =>
 (bif (decide ((e.1.length : Int) ≤ (p.1.length : Int))) then
 (if fits (t17 + 1) then (go (terms2, at02, best, t16, (t17 + 1), c3, c4)) else none)
 else
 (iter (fun go2 (g : (List ((List UInt8) × Int)) × Int × (Option ((List (List UInt8)) × (List UInt8))) × ((List (List UInt8)) × (List UInt8)) × Bool × Int × Int × Bool × (List (List UInt8)) × Int × Int × (List (List UInt8)) × (List ((List (List UInt8)) × (List UInt8)))) =>
 match g with
 | (terms3, at03, best2, r, fits0, t162, t172, t49, t54, t55, t56, c5, c6) =>
 (bif (decide (t56 < t55)) then
 (Option.bind (idx t54 t56) fun e2 =>
 (if fits (at03 + t56) then (Option.bind (idx terms3 (at03 + t56)) fun e3 =>
 (bif fits0 then
 (bif (decide (e3.1 = e2)) then
 (Option.bind (idx terms3 at03) fun e4 =>
 (if fits (e4.2 + t56) then (if fits (t56 + 1) then (go2 (terms3, at03, best2, r, (decide (e3.2 = (e4.2 + t56))), t162, t172, t49, t54, t55, (t56 + 1), c5, c6)) else none) else none))
 else
 (if fits (t56 + 1) then (go2 (terms3, at03, best2, r, false, t162, t172, t49, t54, t55, (t56 + 1), c5, c6)) else none))
 else
 (if fits (t56 + 1) then (go2 (terms3, at03, best2, r, false, t162, t172, t49, t54, t55, (t56 + 1), c5, c6)) else none))) else none))
 else
 (bif fits0 then
 (if fits (t172 + 1) then (go (terms3, at03, (some r), t162, (t172 + 1), c5, c6)) else none)
 else
 (if fits (t172 + 1) then (go (terms3, at03, best2, t162, (t172 + 1), c5, c6)) else none)))) N (terms2, at02, best, e, true, t16, t17, (decide ((e.1.length : Int) ≤ (p.1.length : Int))), e.1, (e.1.length : Int), 0, c3, c4))))
 else
 (iter (fun go3 (g : (List ((List UInt8) × Int)) × Int × (Option ((List (List UInt8)) × (List UInt8))) × ((List (List UInt8)) × (List UInt8)) × Bool × Int × Int × Bool × (List (List UInt8)) × Int × Int × (List (List UInt8)) × (List ((List (List UInt8)) × (List UInt8)))) =>
 match g with
 | (terms4, at04, best3, r2, fits02, t163, t173, t492, t542, t552, t562, c7, c8) =>
 (bif (decide (t562 < t552)) then
 (Option.bind (idx t542 t562) fun e5 =>
 (if fits (at04 + t562) then (Option.bind (idx terms4 (at04 + t562)) fun e6 =>
 (bif fits02 then
 (bif (decide (e6.1 = e5)) then
 (Option.bind (idx terms4 at04) fun e7 =>
 (if fits (e7.2 + t562) then (if fits (t562 + 1) then (go3 (terms4, at04, best3, r2, (decide (e6.2 = (e7.2 + t562))), t163, t173, t492, t542, t552, (t562 + 1), c7, c8)) else none) else none))
 else
 (if fits (t562 + 1) then (go3 (terms4, at04, best3, r2, false, t163, t173, t492, t542, t552, (t562 + 1), c7, c8)) else none))
 else
 (if fits (t562 + 1) then (go3 (terms4, at04, best3, r2, false, t163, t173, t492, t542, t552, (t562 + 1), c7, c8)) else none))) else none))
 else
 (bif fits02 then
 (if fits (t173 + 1) then (go (terms4, at04, (some r2), t163, (t173 + 1), c7, c8)) else none)
 else
 (if fits (t173 + 1) then (go (terms4, at04, best3, t163, (t173 + 1), c7, c8)) else none)))) N (terms2, at02, best, e, true, t16, t17, false, e.1, (e.1.length : Int), 0, c3, c4)))) else none))
 else
 (some best))) N (terms, at0, (none : Option ((List (List UInt8)) × (List UInt8))), (c2.length : Int), 0, c, c2))
def i_ruleAt_M (N : Nat) : Model := ⟨i_ruleAt_arg, i_ruleAt_ret, fun a => i_ruleAt_m N a.1 a.2.1 a.2.2.1 a.2.2.2⟩
set_option maxRecDepth 1000000 in
theorem i_ruleAt_ok (N : Nat) : ModelOk Tryz.prog 97 (i_ruleAt_M N) :=
  modelOk_of (E := mkEnv [] [] []) (mkEnv_ok fnsOk_nil _ _) Tryz.func97 (by kernel_rfl) rfl N i_ruleAt_h (i_ruleAt_M N) (by kernel_rfl) (by kernel_rfl) (fun a => by kernel_rfl)
/-! loop.example/fossick/impl.TermsOf -/
def i_TermsOf_arg : Sh := ⟨[.agg [.pv (.sl .str), .pv (.sl (.pair (.sl .str) .str))], .pv .str], []⟩
def i_TermsOf_ret : Sh := ⟨[.own 1 (.pair .str (.int .i64)) 110 true], []⟩
def i_TermsOf_s1 : Sh := ⟨.dead :: .dead :: .box 2 0 :: .dead :: .dead :: .own 600005 Y12 110 true :: .own 600006 Y12 110 true :: dz 17 (.own 600024 Y4 147 true :: .pv (.int .i64) :: .pv (.int .i64) :: dz 67 []), [(2, false, [.pv (.sl .str), .pv Y11])]⟩
def i_TermsOf_s2 : Sh := ⟨.dead :: .dead :: .box 2 0 :: .dead :: .dead :: .own 600005 Y12 110 true :: .own 600006 Y12 110 true :: dz 3 (.pv (.int .i64) :: dz 83 []), [(2, false, [.pv (.sl .str), .pv Y11])]⟩
def i_TermsOf_h : Hint := (.seq .no (.seq .no (.seq .no (.seq .no (.seq (.seq .no (.block (.loop i_TermsOf_s1 .no))) (.seq (.seq .no (.block (.loop i_TermsOf_s2 .no))) .no))))))
def i_TermsOf_m (N : Nat) (c : List (List UInt8)) (c2 : List ((List (List UInt8)) × (List UInt8))) (s : List UInt8) : Option ((List ((List UInt8) × Int))) :=
 (Option.bind (i_ConfOk_m N c c2) fun r =>
 (bif (!r) then
 (some ([] : List ((List UInt8) × Int)))
 else
 (Option.bind (i_TextOk_m N s) fun r2 =>
 (bif (!r2) then
 (some ([] : List ((List UInt8) × Int)))
 else
 (Option.bind (i_WordsOf_m N s) fun r3 =>
 (iter (fun go (g : (List ((List UInt8) × Int)) × (List ((List UInt8) × Int)) × (List ((List UInt8) × Int × Int × Int)) × Int × Int × (List (List UInt8)) × (List ((List (List UInt8)) × (List UInt8)))) =>
 match g with
 | (out, terms, t24, t25, t26, c3, c4) =>
 (bif (decide (t26 < t25)) then
 (Option.bind (idx t24 t26) fun e =>
 (Option.bind (i_StemOf_m N e.1) fun r4 =>
 (Option.bind (k_slices_Contains_148_m N c3 e.1) fun r5 =>
 (bif (!r5) then
 (Option.bind (k_slices_Contains_148_m N c3 r4) fun r6 =>
 (bif (!r6) then
 (if room terms.length ([(r4, e.2.1)] : List ((List UInt8) × Int)).length 24 then
 (if fits (t26 + 1) then (go (out, (terms ++ ([(r4, e.2.1)] : List ((List UInt8) × Int))), t24, t25, (t26 + 1), c3, c4)) else none)
 else none)
 else
 (if fits (t26 + 1) then (go (out, terms, t24, t25, (t26 + 1), c3, c4)) else none)))
 else
 (if fits (t26 + 1) then (go (out, terms, t24, t25, (t26 + 1), c3, c4)) else none)))))
 else
 (iter (fun go2 (g : (List ((List UInt8) × Int)) × (List ((List UInt8) × Int)) × Int × (List (List UInt8)) × (List ((List (List UInt8)) × (List UInt8)))) =>
 match g with
 | (out2, terms2, at0, c5, c6) =>
 (bif (decide (at0 < (terms2.length : Int))) then
 (Option.bind (i_ruleAt_m N c5 c6 terms2 at0) fun r7 =>
 (bif (Option.isNone r7) then
 (Option.bind (idx terms2 at0) fun e2 =>
 (if room out2.length ([e2] : List ((List UInt8) × Int)).length 24 then
 (if fits (at0 + 1) then (go2 ((out2 ++ ([e2] : List ((List UInt8) × Int))), terms2, (at0 + 1), c5, c6)) else none)
 else none))
 else
 (Option.bind r7 fun p =>
 (Option.bind (idx terms2 at0) fun e3 =>
 (if room out2.length ([(p.2, e3.2)] : List ((List UInt8) × Int)).length 24 then
 (Option.bind r7 fun p2 =>
 (if fits (at0 + (p2.1.length : Int)) then (go2 ((out2 ++ ([(p.2, e3.2)] : List ((List UInt8) × Int))), terms2, (at0 + (p2.1.length : Int)), c5, c6)) else none))
 else none)))))
 else
 (some out2))) N (out, terms, 0, c3, c4)))) N (([] : List ((List UInt8) × Int)), ([] : List ((List UInt8) × Int)), r3, (r3.length : Int), 0, c, c2)))))))
def i_TermsOf_M (N : Nat) : Model := ⟨i_TermsOf_arg, i_TermsOf_ret, fun a => i_TermsOf_m N a.1 a.2.1 a.2.2⟩
set_option maxRecDepth 1000000 in
theorem i_TermsOf_ok (N : Nat) : ModelOk Tryz.prog 65 (i_TermsOf_M N) :=
  modelOk_of (E := mkEnv [(31, i_ConfOk_M N), (94, i_TextOk_M N), (96, i_WordsOf_M N), (10, i_StemOf_M N), (62, k_slices_Contains_148_M N), (97, i_ruleAt_M N)] [] []) (mkEnv_ok (fnsOk_cons (i_ConfOk_ok N) (fnsOk_cons (i_TextOk_ok N) (fnsOk_cons (i_WordsOf_ok N) (fnsOk_cons (i_StemOf_ok N) (fnsOk_cons (k_slices_Contains_148_ok N) (fnsOk_cons (i_ruleAt_ok N) fnsOk_nil)))))) _ _) Tryz.func65 (by kernel_rfl) rfl N i_TermsOf_h (i_TermsOf_M N) (by kernel_rfl) (by kernel_rfl) (fun a => by kernel_rfl)
/-! (*loop.example/fossick/impl.Seg).put$1 -/
def k__loop_example_fossick_impl_Seg_put_1_arg : Sh := ⟨[.agg [.pv .str, .pv .str, .pv (.sl (.pair (.int .i64) (.sl (.int .i64))))], .ptr .str, .ptr (.pair .str (.int .i64))], []⟩
def k__loop_example_fossick_impl_Seg_put_1_ret : Sh := ⟨[.pv .bool], []⟩
def k__loop_example_fossick_impl_Seg_put_1_h : Hint := .no
def k__loop_example_fossick_impl_Seg_put_1_m (N : Nat) (e : List UInt8) (e2 : List UInt8) (e3 : List (Int × (List Int))) (t1 : List UInt8) (t2 : (List UInt8) × Int) : Option (Bool) :=
 (bif (decide (e = t1)) then
 (some (decide (e2 = t2.1)))
 else
 (some false))
def k__loop_example_fossick_impl_Seg_put_1_M (N : Nat) : Model := ⟨k__loop_example_fossick_impl_Seg_put_1_arg, k__loop_example_fossick_impl_Seg_put_1_ret, fun a => k__loop_example_fossick_impl_Seg_put_1_m N a.1 a.2.1 a.2.2.1 a.2.2.2.1 a.2.2.2.2⟩
set_option maxRecDepth 1000000 in
theorem k__loop_example_fossick_impl_Seg_put_1_ok (N : Nat) : ModelOk Tryz.prog 99 (k__loop_example_fossick_impl_Seg_put_1_M N) :=
  modelOk_of (E := mkEnv [] [] []) (mkEnv_ok fnsOk_nil _ _) Tryz.func99 (by kernel_rfl) rfl N k__loop_example_fossick_impl_Seg_put_1_h (k__loop_example_fossick_impl_Seg_put_1_M N) (by kernel_rfl) (by kernel_rfl) (fun a => by kernel_rfl)
/-! slices.IndexFunc[[]loop.example/fossick/impl.Entry,loop.example/fossick/impl.Entry] -/
def k_slices_IndexFunc_146_arg : Sh := ⟨[.pv (.sl (.pair .str (.pair .str (.sl (.pair (.int .i64) (.sl (.int .i64))))))), .clo 99 [.ptr .str, .ptr (.pair .str (.int .i64))]], []⟩
def k_slices_IndexFunc_146_ret : Sh := ⟨[.pv (.int .i64)], []⟩
def k_slices_IndexFunc_146_s1 : Sh := ⟨.pv Y2 :: .clo 99 [.ptr .str, .ptr Y12] :: dz 5 (.pv (.int .i64) :: .pv (.int .i64) :: dz 10 []), []⟩
def k_slices_IndexFunc_146_h : Hint := (.seq .no (.seq (.seq .no (.block (.loop k_slices_IndexFunc_146_s1 .no))) .no))
def k_slices_IndexFunc_146_m (N : Nat) (s : List ((List UInt8) × (List UInt8) × (List (Int × (List Int))))) (f : (List UInt8) × (List UInt8) × Int) : Option (Int) :=
 (iter (fun go (g : (List ((List UInt8) × (List UInt8) × (List (Int × (List Int))))) × ((List UInt8) × (List UInt8) × Int) × Int × Int) =>
 match g with
 | (s2, f2, t7, t8) =>
 (bif (decide (t8 < t7)) then
 (Option.bind (idx s2 t8) fun e =>
 (Option.bind (k__loop_example_fossick_impl_Seg_put_1_m N e.1 e.2.1 e.2.2 f2.1 f2.2) fun r =>
 (bif r then
 (some t8)
 else
 (if fits (t8 + 1) then (go (s2, f2, t7, (t8 + 1))) else none))))
 else
 (some (-1)))) N (s, f, (s.length : Int), 0))
def k_slices_IndexFunc_146_M (N : Nat) : Model := ⟨k_slices_IndexFunc_146_arg, k_slices_IndexFunc_146_ret, fun a => k_slices_IndexFunc_146_m N a.1 a.2⟩
set_option maxRecDepth 1000000 in
theorem k_slices_IndexFunc_146_ok (N : Nat) : ModelOk Tryz.prog 98 (k_slices_IndexFunc_146_M N) :=
  modelOk_of (E := mkEnv [(99, k__loop_example_fossick_impl_Seg_put_1_M N)] [] []) (mkEnv_ok (fnsOk_cons (k__loop_example_fossick_impl_Seg_put_1_ok N) fnsOk_nil) _ _) Tryz.func98 (by kernel_rfl) rfl N k_slices_IndexFunc_146_h (k_slices_IndexFunc_146_M N) (by kernel_rfl) (by kernel_rfl) (fun a => by kernel_rfl)
/-! (*loop.example/fossick/impl.Seg).put -/
def i_Seg_put_arg : Sh := ⟨[.box 900000 0, .pv .str, .agg [.pv .str, .pv (.int .i64)], .pv (.int .i64)], [(900000, false, [.pv (.sl (.pair (.int .i64) (.pair (.sl (.pair .str .str)) (.sl (.pair .str (.int .i64)))))), .tre 850001 (.pair .str (.pair .str (.sl (.pair (.int .i64) (.sl (.int .i64)))))) 66])]⟩
def i_Seg_put_ret : Sh := ⟨[.tup []], [(900000, false, [.pv (.sl (.pair (.int .i64) (.pair (.sl (.pair .str .str)) (.sl (.pair .str (.int .i64)))))), .tre 1 (.pair .str (.pair .str (.sl (.pair (.int .i64) (.sl (.int .i64)))))) 66])]⟩
def i_Seg_put_h : Hint := (.seq .no (.seq .no (.seq .no (.seq .no (.seq .no (.seq .no (.touch [.out 9 [(2, 79, 77, 10), (1, 88, 3, 0)]])))))))
def i_Seg_put_m (N : Nat) (field : List UInt8) (t : List UInt8) (t2 : Int) (id : Int) (b : List (Int × (List ((List UInt8) × (List UInt8))) × (List ((List UInt8) × Int)))) (b2 : List ((List UInt8) × (List UInt8) × (List (Int × (List Int))))) : Option ((List (Int × (List ((List UInt8) × (List UInt8))) × (List ((List UInt8) × Int)))) × (List ((List UInt8) × (List UInt8) × (List (Int × (List Int)))))) :=
 (Option.bind (k_slices_IndexFunc_146_m N b2 (field, t, t2)) fun r =>
 (bif (decide (r < 0)) then
 (if room b2.length ([(field, t, ([] : List (Int × (List Int))))] : List ((List UInt8) × (List UInt8) × (List (Int × (List Int))))).length 56 then
 (if 0 ≤ (b2.length : Int) ∧ (b2.length : Int) < ((b2 ++ ([(field, t, ([] : List (Int × (List Int))))] : List ((List UInt8) × (List UInt8) × (List (Int × (List Int)))))).length : Int) then
 (Option.bind ((b2 ++ ([(field, t, ([] : List (Int × (List Int))))] : List ((List UInt8) × (List UInt8) × (List (Int × (List Int))))))[(b2.length : Int).toNat]?) fun e =>
 (if fits ((e.2.2.length : Int) - 1) then (bif (decide (((e.2.2.length : Int) - 1) < 0)) then
 (Option.bind ((b2 ++ ([(field, t, ([] : List (Int × (List Int))))] : List ((List UInt8) × (List UInt8) × (List (Int × (List Int))))))[(b2.length : Int).toNat]?) fun e2 =>
 (if (b2.length : Int).toNat = (b2.length : Int).toNat then
 (if room e.2.2.length ([(id, ([] : List Int))] : List (Int × (List Int))).length 32 then
 (if (b2.length : Int).toNat = (b2.length : Int).toNat then
 (Option.bind ((b2 ++ ([(field, t, ([] : List (Int × (List Int))))] : List ((List UInt8) × (List UInt8) × (List (Int × (List Int))))))[(b2.length : Int).toNat]?) fun e3 =>
 (if fits (((e.2.2.length : Int) - 1) + 1) then (Option.bind (((b2 ++ ([(field, t, ([] : List (Int × (List Int))))] : List ((List UInt8) × (List UInt8) × (List (Int × (List Int)))))).set (b2.length : Int).toNat (e3.1, e3.2.1, (e.2.2 ++ ([(id, ([] : List Int))] : List (Int × (List Int))))))[(b2.length : Int).toNat]?) fun e4 =>
 (Option.bind (e4.2.2[(((e.2.2.length : Int) - 1) + 1).toNat]?) fun e5 =>
 (Option.bind (((b2 ++ ([(field, t, ([] : List (Int × (List Int))))] : List ((List UInt8) × (List UInt8) × (List (Int × (List Int)))))).set (b2.length : Int).toNat (e3.1, e3.2.1, (e.2.2 ++ ([(id, ([] : List Int))] : List (Int × (List Int))))))[(b2.length : Int).toNat]?) fun e6 =>
 (if (b2.length : Int).toNat = (b2.length : Int).toNat then
 (Option.bind (((b2 ++ ([(field, t, ([] : List (Int × (List Int))))] : List ((List UInt8) × (List UInt8) × (List (Int × (List Int)))))).set (b2.length : Int).toNat (e3.1, e3.2.1, (e.2.2 ++ ([(id, ([] : List Int))] : List (Int × (List Int))))))[(b2.length : Int).toNat]?) fun e7 =>
 (if (b2.length : Int).toNat = (b2.length : Int).toNat then
 (if 0 ≤ (((e.2.2.length : Int) - 1) + 1) ∧ (((e.2.2.length : Int) - 1) + 1) < (e4.2.2.length : Int) then
 (Option.bind (e4.2.2[(((e.2.2.length : Int) - 1) + 1).toNat]?) fun e8 =>
 (if (((e.2.2.length : Int) - 1) + 1).toNat = (((e.2.2.length : Int) - 1) + 1).toNat then
 (if room e5.2.length ([t2] : List Int).length 8 then
 (if 0 ≤ (((e.2.2.length : Int) - 1) + 1) ∧ (((e.2.2.length : Int) - 1) + 1) < (e4.2.2.length : Int) then
 (if (((e.2.2.length : Int) - 1) + 1).toNat = (((e.2.2.length : Int) - 1) + 1).toNat then
 (Option.bind (e4.2.2[(((e.2.2.length : Int) - 1) + 1).toNat]?) fun e9 =>
 (some (b, (((b2 ++ ([(field, t, ([] : List (Int × (List Int))))] : List ((List UInt8) × (List UInt8) × (List (Int × (List Int)))))).set (b2.length : Int).toNat (e3.1, e3.2.1, (e.2.2 ++ ([(id, ([] : List Int))] : List (Int × (List Int)))))).modify ((b2.length : Int).toNat) fun y => (y.1, y.2.1, (e4.2.2.set (((e.2.2.length : Int) - 1) + 1).toNat (e9.1, (e5.2 ++ ([t2] : List Int)))))))))
 else none)
 else none)
 else none)
 else none))
 else none)
 else none))
 else none)))) else none))
 else none)
 else none)
 else none))
 else
 (Option.bind ((b2 ++ ([(field, t, ([] : List (Int × (List Int))))] : List ((List UInt8) × (List UInt8) × (List (Int × (List Int))))))[(b2.length : Int).toNat]?) fun e10 =>
 (if (b2.length : Int).toNat = (b2.length : Int).toNat then
 (if 0 ≤ ((e.2.2.length : Int) - 1) ∧ ((e.2.2.length : Int) - 1) < (e.2.2.length : Int) then
 (Option.bind (e.2.2[((e.2.2.length : Int) - 1).toNat]?) fun e11 =>
 (bif (!decide (e11.1 = id)) then
 (Option.bind ((b2 ++ ([(field, t, ([] : List (Int × (List Int))))] : List ((List UInt8) × (List UInt8) × (List (Int × (List Int))))))[(b2.length : Int).toNat]?) fun e12 =>
 (if (b2.length : Int).toNat = (b2.length : Int).toNat then
 (if room e.2.2.length ([(id, ([] : List Int))] : List (Int × (List Int))).length 32 then
 (if (b2.length : Int).toNat = (b2.length : Int).toNat then
 (Option.bind ((b2 ++ ([(field, t, ([] : List (Int × (List Int))))] : List ((List UInt8) × (List UInt8) × (List (Int × (List Int))))))[(b2.length : Int).toNat]?) fun e13 =>
 (if fits (((e.2.2.length : Int) - 1) + 1) then (Option.bind (((b2 ++ ([(field, t, ([] : List (Int × (List Int))))] : List ((List UInt8) × (List UInt8) × (List (Int × (List Int)))))).set (b2.length : Int).toNat (e13.1, e13.2.1, (e.2.2 ++ ([(id, ([] : List Int))] : List (Int × (List Int))))))[(b2.length : Int).toNat]?) fun e14 =>
 (Option.bind (e14.2.2[(((e.2.2.length : Int) - 1) + 1).toNat]?) fun e15 =>
 (Option.bind (((b2 ++ ([(field, t, ([] : List (Int × (List Int))))] : List ((List UInt8) × (List UInt8) × (List (Int × (List Int)))))).set (b2.length : Int).toNat (e13.1, e13.2.1, (e.2.2 ++ ([(id, ([] : List Int))] : List (Int × (List Int))))))[(b2.length : Int).toNat]?) fun e16 =>
 (if (b2.length : Int).toNat = (b2.length : Int).toNat then
 (Option.bind (((b2 ++ ([(field, t, ([] : List (Int × (List Int))))] : List ((List UInt8) × (List UInt8) × (List (Int × (List Int)))))).set (b2.length : Int).toNat (e13.1, e13.2.1, (e.2.2 ++ ([(id, ([] : List Int))] : List (Int × (List Int))))))[(b2.length : Int).toNat]?) fun e17 =>
 (if (b2.length : Int).toNat = (b2.length : Int).toNat then
 (if 0 ≤ (((e.2.2.length : Int) - 1) + 1) ∧ (((e.2.2.length : Int) - 1) + 1) < (e14.2.2.length : Int) then
 (Option.bind (e14.2.2[(((e.2.2.length : Int) - 1) + 1).toNat]?) fun e18 =>
 (if (((e.2.2.length : Int) - 1) + 1).toNat = (((e.2.2.length : Int) - 1) + 1).toNat then
 (if room e15.2.length ([t2] : List Int).length 8 then
 (if 0 ≤ (((e.2.2.length : Int) - 1) + 1) ∧ (((e.2.2.length : Int) - 1) + 1) < (e14.2.2.length : Int) then
 (if (((e.2.2.length : Int) - 1) + 1).toNat = (((e.2.2.length : Int) - 1) + 1).toNat then
 (Option.bind (e14.2.2[(((e.2.2.length : Int) - 1) + 1).toNat]?) fun e19 =>
 (some (b, (((b2 ++ ([(field, t, ([] : List (Int × (List Int))))] : List ((List UInt8) × (List UInt8) × (List (Int × (List Int)))))).set (b2.length : Int).toNat (e13.1, e13.2.1, (e.2.2 ++ ([(id, ([] : List Int))] : List (Int × (List Int)))))).modify ((b2.length : Int).toNat) fun y2 => (y2.1, y2.2.1, (e14.2.2.set (((e.2.2.length : Int) - 1) + 1).toNat (e19.1, (e15.2 ++ ([t2] : List Int)))))))))
 else none)
 else none)
 else none)
 else none))
 else none)
 else none))
 else none)))) else none))
 else none)
 else none)
 else none))
 else
 (if (b2.length : Int).toNat = (b2.length : Int).toNat then
 (Option.bind (e.2.2[((e.2.2.length : Int) - 1).toNat]?) fun e20 =>
 (Option.bind ((b2 ++ ([(field, t, ([] : List (Int × (List Int))))] : List ((List UInt8) × (List UInt8) × (List (Int × (List Int))))))[(b2.length : Int).toNat]?) fun e21 =>
 (if (b2.length : Int).toNat = (b2.length : Int).toNat then
 (Option.bind ((b2 ++ ([(field, t, ([] : List (Int × (List Int))))] : List ((List UInt8) × (List UInt8) × (List (Int × (List Int))))))[(b2.length : Int).toNat]?) fun e22 =>
 (if (b2.length : Int).toNat = (b2.length : Int).toNat then
 (if 0 ≤ ((e.2.2.length : Int) - 1) ∧ ((e.2.2.length : Int) - 1) < (e.2.2.length : Int) then
 (Option.bind (e.2.2[((e.2.2.length : Int) - 1).toNat]?) fun e23 =>
 (if ((e.2.2.length : Int) - 1).toNat = ((e.2.2.length : Int) - 1).toNat then
 (if room e20.2.length ([t2] : List Int).length 8 then
 (if 0 ≤ ((e.2.2.length : Int) - 1) ∧ ((e.2.2.length : Int) - 1) < (e.2.2.length : Int) then
 (if ((e.2.2.length : Int) - 1).toNat = ((e.2.2.length : Int) - 1).toNat then
 (Option.bind (e.2.2[((e.2.2.length : Int) - 1).toNat]?) fun e24 =>
 (some (b, ((b2 ++ ([(field, t, ([] : List (Int × (List Int))))] : List ((List UInt8) × (List UInt8) × (List (Int × (List Int)))))).modify ((b2.length : Int).toNat) fun y3 => (y3.1, y3.2.1, (e.2.2.set ((e.2.2.length : Int) - 1).toNat (e24.1, (e20.2 ++ ([t2] : List Int)))))))))
 else none)
 else none)
 else none)
 else none))
 else none)
 else none))
 else none)))
 else none)))
 else none)
 else none))) else none))
 else none)
 else none)
 else
 (if 0 ≤ r ∧ r < (b2.length : Int) then
 (Option.bind (b2[r.toNat]?) fun e25 =>
 (if fits ((e25.2.2.length : Int) - 1) then (bif (decide (((e25.2.2.length : Int) - 1) < 0)) then
 (Option.bind (b2[r.toNat]?) fun e26 =>
 (if r.toNat = r.toNat then
 (if room e25.2.2.length ([(id, ([] : List Int))] : List (Int × (List Int))).length 32 then
 (if r.toNat = r.toNat then
 (Option.bind (b2[r.toNat]?) fun e27 =>
 (if fits (((e25.2.2.length : Int) - 1) + 1) then (Option.bind ((b2.set r.toNat (e27.1, e27.2.1, (e25.2.2 ++ ([(id, ([] : List Int))] : List (Int × (List Int))))))[r.toNat]?) fun e28 =>
 (Option.bind (e28.2.2[(((e25.2.2.length : Int) - 1) + 1).toNat]?) fun e29 =>
 (Option.bind ((b2.set r.toNat (e27.1, e27.2.1, (e25.2.2 ++ ([(id, ([] : List Int))] : List (Int × (List Int))))))[r.toNat]?) fun e30 =>
 (if r.toNat = r.toNat then
 (Option.bind ((b2.set r.toNat (e27.1, e27.2.1, (e25.2.2 ++ ([(id, ([] : List Int))] : List (Int × (List Int))))))[r.toNat]?) fun e31 =>
 (if r.toNat = r.toNat then
 (if 0 ≤ (((e25.2.2.length : Int) - 1) + 1) ∧ (((e25.2.2.length : Int) - 1) + 1) < (e28.2.2.length : Int) then
 (Option.bind (e28.2.2[(((e25.2.2.length : Int) - 1) + 1).toNat]?) fun e32 =>
 (if (((e25.2.2.length : Int) - 1) + 1).toNat = (((e25.2.2.length : Int) - 1) + 1).toNat then
 (if room e29.2.length ([t2] : List Int).length 8 then
 (if 0 ≤ (((e25.2.2.length : Int) - 1) + 1) ∧ (((e25.2.2.length : Int) - 1) + 1) < (e28.2.2.length : Int) then
 (if (((e25.2.2.length : Int) - 1) + 1).toNat = (((e25.2.2.length : Int) - 1) + 1).toNat then
 (Option.bind (e28.2.2[(((e25.2.2.length : Int) - 1) + 1).toNat]?) fun e33 =>
 (some (b, ((b2.set r.toNat (e27.1, e27.2.1, (e25.2.2 ++ ([(id, ([] : List Int))] : List (Int × (List Int)))))).modify r.toNat fun y4 => (y4.1, y4.2.1, (e28.2.2.set (((e25.2.2.length : Int) - 1) + 1).toNat (e33.1, (e29.2 ++ ([t2] : List Int)))))))))
 else none)
 else none)
 else none)
 else none))
 else none)
 else none))
 else none)))) else none))
 else none)
 else none)
 else none))
 else
 (Option.bind (b2[r.toNat]?) fun e34 =>
 (if r.toNat = r.toNat then
 (if 0 ≤ ((e25.2.2.length : Int) - 1) ∧ ((e25.2.2.length : Int) - 1) < (e25.2.2.length : Int) then
 (Option.bind (e25.2.2[((e25.2.2.length : Int) - 1).toNat]?) fun e35 =>
 (bif (!decide (e35.1 = id)) then
 (Option.bind (b2[r.toNat]?) fun e36 =>
 (if r.toNat = r.toNat then
 (if room e25.2.2.length ([(id, ([] : List Int))] : List (Int × (List Int))).length 32 then
 (if r.toNat = r.toNat then
 (Option.bind (b2[r.toNat]?) fun e37 =>
 (if fits (((e25.2.2.length : Int) - 1) + 1) then (Option.bind ((b2.set r.toNat (e37.1, e37.2.1, (e25.2.2 ++ ([(id, ([] : List Int))] : List (Int × (List Int))))))[r.toNat]?) fun e38 =>
 (Option.bind (e38.2.2[(((e25.2.2.length : Int) - 1) + 1).toNat]?) fun e39 =>
 (Option.bind ((b2.set r.toNat (e37.1, e37.2.1, (e25.2.2 ++ ([(id, ([] : List Int))] : List (Int × (List Int))))))[r.toNat]?) fun e40 =>
 (if r.toNat = r.toNat then
 (Option.bind ((b2.set r.toNat (e37.1, e37.2.1, (e25.2.2 ++ ([(id, ([] : List Int))] : List (Int × (List Int))))))[r.toNat]?) fun e41 =>
 (if r.toNat = r.toNat then
 (if 0 ≤ (((e25.2.2.length : Int) - 1) + 1) ∧ (((e25.2.2.length : Int) - 1) + 1) < (e38.2.2.length : Int) then
 (Option.bind (e38.2.2[(((e25.2.2.length : Int) - 1) + 1).toNat]?) fun e42 =>
 (if (((e25.2.2.length : Int) - 1) + 1).toNat = (((e25.2.2.length : Int) - 1) + 1).toNat then
 (if room e39.2.length ([t2] : List Int).length 8 then
 (if 0 ≤ (((e25.2.2.length : Int) - 1) + 1) ∧ (((e25.2.2.length : Int) - 1) + 1) < (e38.2.2.length : Int) then
 (if (((e25.2.2.length : Int) - 1) + 1).toNat = (((e25.2.2.length : Int) - 1) + 1).toNat then
 (Option.bind (e38.2.2[(((e25.2.2.length : Int) - 1) + 1).toNat]?) fun e43 =>
 (some (b, ((b2.set r.toNat (e37.1, e37.2.1, (e25.2.2 ++ ([(id, ([] : List Int))] : List (Int × (List Int)))))).modify r.toNat fun y5 => (y5.1, y5.2.1, (e38.2.2.set (((e25.2.2.length : Int) - 1) + 1).toNat (e43.1, (e39.2 ++ ([t2] : List Int)))))))))
 else none)
 else none)
 else none)
 else none))
 else none)
 else none))
 else none)))) else none))
 else none)
 else none)
 else none))
 else
 (if r.toNat = r.toNat then
 (Option.bind (e25.2.2[((e25.2.2.length : Int) - 1).toNat]?) fun e44 =>
 (Option.bind (b2[r.toNat]?) fun e45 =>
 (if r.toNat = r.toNat then
 (Option.bind (b2[r.toNat]?) fun e46 =>
 (if r.toNat = r.toNat then
 (if 0 ≤ ((e25.2.2.length : Int) - 1) ∧ ((e25.2.2.length : Int) - 1) < (e25.2.2.length : Int) then
 (Option.bind (e25.2.2[((e25.2.2.length : Int) - 1).toNat]?) fun e47 =>
 (if ((e25.2.2.length : Int) - 1).toNat = ((e25.2.2.length : Int) - 1).toNat then
 (if room e44.2.length ([t2] : List Int).length 8 then
 (if 0 ≤ ((e25.2.2.length : Int) - 1) ∧ ((e25.2.2.length : Int) - 1) < (e25.2.2.length : Int) then
 (if ((e25.2.2.length : Int) - 1).toNat = ((e25.2.2.length : Int) - 1).toNat then
 (Option.bind (e25.2.2[((e25.2.2.length : Int) - 1).toNat]?) fun e48 =>
 (some (b, (b2.modify r.toNat fun y6 => (y6.1, y6.2.1, (e25.2.2.set ((e25.2.2.length : Int) - 1).toNat (e48.1, (e44.2 ++ ([t2] : List Int)))))))))
 else none)
 else none)
 else none)
 else none))
 else none)
 else none))
 else none)))
 else none)))
 else none)
 else none))) else none))
 else none)))
def i_Seg_put_M (N : Nat) : Model := ⟨i_Seg_put_arg, i_Seg_put_ret, fun a => i_Seg_put_m N a.1 a.2.1 a.2.2.1 a.2.2.2.1 a.2.2.2.2.1 a.2.2.2.2.2⟩
set_option maxRecDepth 1000000 in
theorem i_Seg_put_ok (N : Nat) : ModelOk Tryz.prog 66 (i_Seg_put_M N) :=
  modelOk_of (E := mkEnv [(98, k_slices_IndexFunc_146_M N)] [33, 34, 70, 71, 91, 92] [900000, 850001] [16, 33, 70]) (mkEnv_ok (fnsOk_cons (k_slices_IndexFunc_146_ok N) fnsOk_nil) _ _ _) Tryz.func66 (by kernel_rfl) rfl N i_Seg_put_h (i_Seg_put_M N) (by kernel_rfl) (by kernel_rfl) (fun a => by kernel_rfl)
/-! math/bits.Len64 -/
def k_math_bits_Len64_arg : Sh := ⟨[.pv (.int .u64)], []⟩
def k_math_bits_Len64_ret : Sh := ⟨[.pv (.int .i64)], []⟩
def k_math_bits_Len64_s1 : Sh := ⟨.pv (.int .u64) :: .dead :: .pv (.int .i64) :: dz 22 [], []⟩
def k_math_bits_Len64_s2 : Sh := ⟨.pv (.int .u64) :: .dead :: .pv (.int .i64) :: dz 22 [], []⟩
def k_math_bits_Len64_s3 : Sh := ⟨.pv (.int .u64) :: .dead :: .pv (.int .i64) :: dz 22 [], []⟩
def k_math_bits_Len64_h : Hint := (.seq .no (.meet k_math_bits_Len64_s3 .no (.meet k_math_bits_Len64_s2 .no (.meet k_math_bits_Len64_s1 .no .no))))
def k_math_bits_Len64_m (N : Nat) (x : Int) : Option (Int) :=
 (meet (fun (g : Int × Int) =>
 match g with
 | (x2, n) =>
 (meet (fun (g : Int × Int) =>
 match g with
 | (x3, n2) =>
 (meet (fun (g : Int × Int) =>
 match g with
 | (x4, n3) =>
 (Option.bind (idx ([0, 1, 2, 2, 3, 3, 3, 3, 4, 4, 4, 4, 4, 4, 4, 4, 5, 5, 5, 5, 5, 5, 5, 5, 5, 5, 5, 5, 5, 5, 5, 5, 6, 6, 6, 6, 6, 6, 6, 6, 6, 6, 6, 6, 6, 6, 6, 6, 6, 6, 6, 6, 6, 6, 6, 6, 6, 6, 6, 6, 6, 6, 6, 6, 7, 7, 7, 7, 7, 7, 7, 7, 7, 7, 7, 7, 7, 7, 7, 7, 7, 7, 7, 7, 7, 7, 7, 7, 7, 7, 7, 7, 7, 7, 7, 7, 7, 7, 7, 7, 7, 7, 7, 7, 7, 7, 7, 7, 7, 7, 7, 7, 7, 7, 7, 7, 7, 7, 7, 7, 7, 7, 7, 7, 7, 7, 7, 7, 8, 8, 8, 8, 8, 8, 8, 8, 8, 8, 8, 8, 8, 8, 8, 8, 8, 8, 8, 8, 8, 8, 8, 8, 8, 8, 8, 8, 8, 8, 8, 8, 8, 8, 8, 8, 8, 8, 8, 8, 8, 8, 8, 8, 8, 8, 8, 8, 8, 8, 8, 8, 8, 8, 8, 8, 8, 8, 8, 8, 8, 8, 8, 8, 8, 8, 8, 8, 8, 8, 8, 8, 8, 8, 8, 8, 8, 8, 8, 8, 8, 8, 8, 8, 8, 8, 8, 8, 8, 8, 8, 8, 8, 8, 8, 8, 8, 8, 8, 8, 8, 8, 8, 8, 8, 8, 8, 8, 8, 8, 8, 8, 8, 8, 8, 8, 8, 8, 8, 8, 8, 8, 8, 8, 8, 8, 8, 8] : List UInt8) (IntKind.u8.wrap x4)) fun c =>
 (if fits (n3 + (IntKind.i64.wrap (c.toNat : Int))) then (some (n3 + (IntKind.i64.wrap (c.toNat : Int)))) else none))) fun J3 =>
 (bif (decide ((256 : Int) ≤ x3)) then
 (if 0 ≤ (8 : Int) then
 (if fits (n2 + 8) then (J3 ((x3.fdiv (2 ^ (min (8 : Int).toNat (IntKind.bits .u64)))), (n2 + 8))) else none)
 else none)
 else
 (J3 (x3, n2))))) fun J2 =>
 (bif (decide ((65536 : Int) ≤ x2)) then
 (if 0 ≤ (16 : Int) then
 (if fits (n + 16) then (J2 ((x2.fdiv (2 ^ (min (16 : Int).toNat (IntKind.bits .u64)))), (n + 16))) else none)
 else none)
 else
 (J2 (x2, n))))) fun J =>
 (bif (decide ((4294967296 : Int) ≤ x)) then
 (if 0 ≤ (32 : Int) then
 (J ((x.fdiv (2 ^ (min (32 : Int).toNat (IntKind.bits .u64)))), 32))
 else none)
 else
 (J (x, 0))))
def k_math_bits_Len64_M (N : Nat) : Model := ⟨k_math_bits_Len64_arg, k_math_bits_Len64_ret, fun a => k_math_bits_Len64_m N a⟩
set_option maxRecDepth 1000000 in
theorem k_math_bits_Len64_ok (N : Nat) : ModelOk Tryz.prog 129 (k_math_bits_Len64_M N) :=
  modelOk_of (E := mkEnv [] [] []) (mkEnv_ok fnsOk_nil _ _) Tryz.func129 (by kernel_rfl) rfl N k_math_bits_Len64_h (k_math_bits_Len64_M N) (by kernel_rfl) (by kernel_rfl) (fun a => by kernel_rfl)
/-! math/bits.Len -/
def k_math_bits_Len_arg : Sh := ⟨[.pv (.int .u64)], []⟩
def k_math_bits_Len_ret : Sh := ⟨[.pv (.int .i64)], []⟩
def k_math_bits_Len_h : Hint := .no
def k_math_bits_Len_m (N : Nat) (x : Int) : Option (Int) :=
 (Option.bind (k_math_bits_Len64_m N x) fun r =>
 (some r))
def k_math_bits_Len_M (N : Nat) : Model := ⟨k_math_bits_Len_arg, k_math_bits_Len_ret, fun a => k_math_bits_Len_m N a⟩
set_option maxRecDepth 1000000 in
theorem k_math_bits_Len_ok (N : Nat) : ModelOk Tryz.prog 101 (k_math_bits_Len_M N) :=
  modelOk_of (E := mkEnv [(129, k_math_bits_Len64_M N)] [] []) (mkEnv_ok (fnsOk_cons (k_math_bits_Len64_ok N) fnsOk_nil) _ _) Tryz.func101 (by kernel_rfl) rfl N k_math_bits_Len_h (k_math_bits_Len_M N) (by kernel_rfl) (by kernel_rfl) (fun a => by kernel_rfl)
/-! cmp.isNaN[string] -/
def k_cmp_isNaN_401_arg : Sh := ⟨[.pv .str], []⟩
def k_cmp_isNaN_401_ret : Sh := ⟨[.pv .bool], []⟩
def k_cmp_isNaN_401_h : Hint := .no
def k_cmp_isNaN_401_m (N : Nat) (x : List UInt8) : Option (Bool) :=
 (some (!decide (x = x)))
def k_cmp_isNaN_401_M (N : Nat) : Model := ⟨k_cmp_isNaN_401_arg, k_cmp_isNaN_401_ret, fun a => k_cmp_isNaN_401_m N a⟩
set_option maxRecDepth 1000000 in
theorem k_cmp_isNaN_401_ok (N : Nat) : ModelOk Tryz.prog 102 (k_cmp_isNaN_401_M N) :=
  modelOk_of (E := mkEnv [] [] []) (mkEnv_ok fnsOk_nil _ _) Tryz.func102 (by kernel_rfl) rfl N k_cmp_isNaN_401_h (k_cmp_isNaN_401_M N) (by kernel_rfl) (by kernel_rfl) (fun a => by kernel_rfl)
/-! cmp.Compare[string] -/
def k_cmp_Compare_433_arg : Sh := ⟨[.pv .str, .pv .str], []⟩
def k_cmp_Compare_433_ret : Sh := ⟨[.pv (.int .i64)], []⟩
def k_cmp_Compare_433_h : Hint := .no
def k_cmp_Compare_433_m (N : Nat) (x : List UInt8) (y : List UInt8) : Option (Int) :=
 (Option.bind (k_cmp_isNaN_401_m N x) fun r =>
 (Option.bind (k_cmp_isNaN_401_m N y) fun r2 =>
 (bif r then
 (bif r2 then
 (some 0)
 else
 (some (-1)))
 else
 (bif r2 then
 (some 1)
 else
 (bif (Op.bytesLess x y) then
 (some (-1))
 else
 (bif (!(Op.bytesLess x y || decide (x = y))) then
 (some 1)
 else
 (some 0)))))))
def k_cmp_Compare_433_M (N : Nat) : Model := ⟨k_cmp_Compare_433_arg, k_cmp_Compare_433_ret, fun a => k_cmp_Compare_433_m N a.1 a.2⟩
set_option maxRecDepth 1000000 in
theorem k_cmp_Compare_433_ok (N : Nat) : ModelOk Tryz.prog 70 (k_cmp_Compare_433_M N) :=
  modelOk_of (E := mkEnv [(102, k_cmp_isNaN_401_M N)] [] []) (mkEnv_ok (fnsOk_cons (k_cmp_isNaN_401_ok N) fnsOk_nil) _ _) Tryz.func70 (by kernel_rfl) rfl N k_cmp_Compare_433_h (k_cmp_Compare_433_M N) (by kernel_rfl) (by kernel_rfl) (fun a => by kernel_rfl)
/-! cmp.Or[int] -/
def k_cmp_Or_892_arg : Sh := ⟨[.pv (.sl (.int .i64))], []⟩
def k_cmp_Or_892_ret : Sh := ⟨[.pv (.int .i64)], []⟩
def k_cmp_Or_892_s1 : Sh := ⟨dz 3 (.pv (.int .i64) :: .dead :: .dead :: .pv Y16 :: .pv (.int .i64) :: .pv (.int .i64) :: dz 9 []), []⟩
def k_cmp_Or_892_h : Hint := (.seq .no (.seq .no (.seq (.seq .no (.block (.loop k_cmp_Or_892_s1 .no))) .no)))
def k_cmp_Or_892_m (N : Nat) (vals : List Int) : Option (Int) :=
 (iter (fun go (g : Int × (List Int) × Int × Int) =>
 match g with
 | (zero, t6, t7, t8) =>
 (bif (decide (t8 < t7)) then
 (Option.bind (idx t6 t8) fun e =>
 (bif (!decide (e = zero)) then
 (some e)
 else
 (if fits (t8 + 1) then (go (zero, t6, t7, (t8 + 1))) else none)))
 else
 (some zero))) N (0, vals, (vals.length : Int), 0))
def k_cmp_Or_892_M (N : Nat) : Model := ⟨k_cmp_Or_892_arg, k_cmp_Or_892_ret, fun a => k_cmp_Or_892_m N a⟩
set_option maxRecDepth 1000000 in
theorem k_cmp_Or_892_ok (N : Nat) : ModelOk Tryz.prog 69 (k_cmp_Or_892_M N) :=
  modelOk_of (E := mkEnv [] [] []) (mkEnv_ok fnsOk_nil _ _) Tryz.func69 (by kernel_rfl) rfl N k_cmp_Or_892_h (k_cmp_Or_892_M N) (by kernel_rfl) (by kernel_rfl) (fun a => by kernel_rfl)
/-! loop.example/fossick/impl.SegOf$1 -/
def i_SegOf_1_arg : Sh := ⟨[.agg [.pv .str, .pv .str, .pv (.sl (.pair (.int .i64) (.sl (.int .i64))))], .agg [.pv .str, .pv .str, .pv (.sl (.pair (.int .i64) (.sl (.int .i64))))]], []⟩
def i_SegOf_1_ret : Sh := ⟨[.pv (.int .i64)], []⟩
def i_SegOf_1_h : Hint := .no
def i_SegOf_1_m (N : Nat) (a : List UInt8) (a2 : List UInt8) (a3 : List (Int × (List Int))) (b : List UInt8) (b2 : List UInt8) (b3 : List (Int × (List Int))) : Option (Int) :=
 (Option.bind (k_cmp_Compare_433_m N a b) fun r =>
 (Option.bind (k_cmp_Compare_433_m N a2 b2) fun r2 =>
 (Option.bind (k_cmp_Or_892_m N ([r, r2] : List Int)) fun r3 =>
 (some r3))))
def i_SegOf_1_M (N : Nat) : Model := ⟨i_SegOf_1_arg, i_SegOf_1_ret, fun a => i_SegOf_1_m N a.1 a.2.1 a.2.2.1 a.2.2.2.1 a.2.2.2.2.1 a.2.2.2.2.2⟩
set_option maxRecDepth 1000000 in
theorem i_SegOf_1_ok (N : Nat) : ModelOk Tryz.prog 68 (i_SegOf_1_M N) :=
  modelOk_of (E := mkEnv [(70, k_cmp_Compare_433_M N), (69, k_cmp_Or_892_M N)] [] []) (mkEnv_ok (fnsOk_cons (k_cmp_Compare_433_ok N) (fnsOk_cons (k_cmp_Or_892_ok N) fnsOk_nil)) _ _) Tryz.func68 (by kernel_rfl) rfl N i_SegOf_1_h (i_SegOf_1_M N) (by kernel_rfl) (by kernel_rfl) (fun a => by kernel_rfl)
/-! slices.insertionSortCmpFunc[loop.example/fossick/impl.Entry] -/
def k_slices_insertionSortCmpFunc_564_arg : Sh := ⟨[.mtk 800000 (.pair .str (.pair .str (.sl (.pair (.int .i64) (.sl (.int .i64)))))) 66 false, .pv (.int .i64), .pv (.int .i64), .clo 68 []], []⟩
def k_slices_insertionSortCmpFunc_564_ret : Sh := ⟨[.tup [], .mtk 800000 (.pair .str (.pair .str (.sl (.pair (.int .i64) (.sl (.int .i64)))))) 66 false], []⟩
def k_slices_insertionSortCmpFunc_564_s1 : Sh := ⟨.mtk 800000 Y3 66 false :: .pv (.int .i64) :: .pv (.int .i64) :: .clo 68 [] :: dz 4 (.pv (.int .i64) :: dz 44 []), []⟩
def k_slices_insertionSortCmpFunc_564_s2 : Sh := ⟨.mtk 800000 Y3 66 false :: .pv (.int .i64) :: .pv (.int .i64) :: .clo 68 [] :: dz 4 (.pv (.int .i64) :: .pv (.int .i64) :: dz 43 []), []⟩
def k_slices_insertionSortCmpFunc_564_h : Hint := (.seq .no (.block (.loop k_slices_insertionSortCmpFunc_564_s1 (.seq .no (.seq (.block (.seq .no (.block (.loop k_slices_insertionSortCmpFunc_564_s2 .no)))) .no)))))
def k_slices_insertionSortCmpFunc_564_m (N : Nat) (data : List ((List UInt8) × (List UInt8) × (List (Int × (List Int))))) (a : Int) (b : Int) (cmp : Unit) : Option ((List ((List UInt8) × (List UInt8) × (List (Int × (List Int)))))) :=
 (if fits (a + 1) then (iter (fun go (g : (List ((List UInt8) × (List UInt8) × (List (Int × (List Int))))) × Int × Int × Unit × Int) =>
 match g with
 | (data2, a2, b2, cmp2, i) =>
 (bif (decide (i < b2)) then
 (iter (fun go2 (g : (List ((List UInt8) × (List UInt8) × (List (Int × (List Int))))) × Int × Int × Unit × Int × Int) =>
 match g with
 | (data3, a3, b3, cmp3, i2, j) =>
 (bif (decide (a3 < j)) then
 (if 0 ≤ j ∧ j < (data3.length : Int) then
 (Option.bind (data3[j.toNat]?) fun e =>
 (if fits (j - 1) then (if 0 ≤ (j - 1) ∧ (j - 1) < (data3.length : Int) then
 (Option.bind (data3[(j - 1).toNat]?) fun e2 =>
 (Option.bind (i_SegOf_1_m N e.1 e.2.1 e.2.2 e2.1 e2.2.1 e2.2.2) fun r =>
 (bif (decide (r < 0)) then
 (if fits (j - 1) then (if fits (j - 1) then (if 0 ≤ (j - 1) ∧ (j - 1) < (data3.length : Int) then
 (Option.bind (data3[(j - 1).toNat]?) fun e3 =>
 (if 0 ≤ j ∧ j < (data3.length : Int) then
 (Option.bind (data3[j.toNat]?) fun e4 =>
 (if 0 ≤ j ∧ j < (data3.length : Int) then
 (Option.bind (data3[j.toNat]?) fun e5 =>
 (if 0 ≤ (j - 1) ∧ (j - 1) < ((data3.set j.toNat e3).length : Int) then
 (Option.bind ((data3.set j.toNat e3)[(j - 1).toNat]?) fun e6 =>
 (if fits (j - 1) then (go2 (((data3.set j.toNat e3).set (j - 1).toNat e4), a3, b3, (), i2, (j - 1))) else none))
 else none))
 else none))
 else none))
 else none) else none) else none)
 else
 (if fits (i2 + 1) then (go (data3, a3, b3, (), (i2 + 1))) else none))))
 else none) else none))
 else none)
 else
 (if fits (i2 + 1) then (go (data3, a3, b3, (), (i2 + 1))) else none))) N (data2, a2, b2, (), i, i))
 else
 (some data2))) N (data, a, b, (), (a + 1))) else none)
def k_slices_insertionSortCmpFunc_564_M (N : Nat) : Model := ⟨k_slices_insertionSortCmpFunc_564_arg, k_slices_insertionSortCmpFunc_564_ret, fun a => k_slices_insertionSortCmpFunc_564_m N a.1 a.2.1 a.2.2.1 a.2.2.2⟩
set_option maxRecDepth 1000000 in
theorem k_slices_insertionSortCmpFunc_564_ok (N : Nat) : ModelOk Tryz.prog 120 (k_slices_insertionSortCmpFunc_564_M N) :=
  modelOk_of (E := mkEnv [(68, i_SegOf_1_M N)] [] [800000]) (mkEnv_ok (fnsOk_cons (i_SegOf_1_ok N) fnsOk_nil) _ _) Tryz.func120 (by kernel_rfl) rfl N k_slices_insertionSortCmpFunc_564_h (k_slices_insertionSortCmpFunc_564_M N) (by kernel_rfl) (by kernel_rfl) (fun a => by kernel_rfl)
/-! slices.siftDownCmpFunc[loop.example/fossick/impl.Entry] -/
def k_slices_siftDownCmpFunc_50_arg : Sh := ⟨[.mtk 800000 (.pair .str (.pair .str (.sl (.pair (.int .i64) (.sl (.int .i64)))))) 66 false, .pv (.int .i64), .pv (.int .i64), .pv (.int .i64), .clo 68 []], []⟩
def k_slices_siftDownCmpFunc_50_ret : Sh := ⟨[.tup [], .mtk 800000 (.pair .str (.pair .str (.sl (.pair (.int .i64) (.sl (.int .i64)))))) 66 false], []⟩
def k_slices_siftDownCmpFunc_50_s1 : Sh := ⟨.mtk 800000 Y3 66 false :: .dead :: .pv (.int .i64) :: .pv (.int .i64) :: .clo 68 [] :: dz 5 (.pv (.int .i64) :: dz 71 []), []⟩
def k_slices_siftDownCmpFunc_50_s2 : Sh := ⟨.mtk 800000 Y3 66 false :: .dead :: .pv (.int .i64) :: .pv (.int .i64) :: .clo 68 [] :: dz 5 (.pv (.int .i64) :: .pv (.int .i64) :: dz 70 []), []⟩
def k_slices_siftDownCmpFunc_50_h : Hint := (.seq .no (.block (.loop k_slices_siftDownCmpFunc_50_s1 (.block (.seq .no (.seq .no (.meet k_slices_siftDownCmpFunc_50_s2 .no .no)))))))
def k_slices_siftDownCmpFunc_50_m (N : Nat) (data : List ((List UInt8) × (List UInt8) × (List (Int × (List Int))))) (lo : Int) (hi : Int) (first : Int) (cmp : Unit) : Option ((List ((List UInt8) × (List UInt8) × (List (Int × (List Int)))))) :=
 (iter (fun go (g : (List ((List UInt8) × (List UInt8) × (List (Int × (List Int))))) × Int × Int × Unit × Int) =>
 match g with
 | (data2, hi2, first2, cmp2, root) =>
 (if fits (2 * root) then (if fits ((2 * root) + 1) then (bif (decide (hi2 ≤ ((2 * root) + 1))) then
 (some data2)
 else
 (meet (fun (g : (List ((List UInt8) × (List UInt8) × (List (Int × (List Int))))) × Int × Int × Unit × Int × Int) =>
 match g with
 | (data3, hi3, first3, cmp3, root2, child) =>
 (if fits (first3 + root2) then (if 0 ≤ (first3 + root2) ∧ (first3 + root2) < (data3.length : Int) then
 (Option.bind (data3[(first3 + root2).toNat]?) fun e3 =>
 (if fits (first3 + child) then (if 0 ≤ (first3 + child) ∧ (first3 + child) < (data3.length : Int) then
 (Option.bind (data3[(first3 + child).toNat]?) fun e4 =>
 (Option.bind (i_SegOf_1_m N e3.1 e3.2.1 e3.2.2 e4.1 e4.2.1 e4.2.2) fun r2 =>
 (bif (!(decide (r2 < 0))) then
 (some data3)
 else
 (if fits (first3 + root2) then (if fits (first3 + child) then (if fits (first3 + child) then (if 0 ≤ (first3 + child) ∧ (first3 + child) < (data3.length : Int) then
 (Option.bind (data3[(first3 + child).toNat]?) fun e5 =>
 (if fits (first3 + root2) then (if 0 ≤ (first3 + root2) ∧ (first3 + root2) < (data3.length : Int) then
 (Option.bind (data3[(first3 + root2).toNat]?) fun e6 =>
 (if 0 ≤ (first3 + root2) ∧ (first3 + root2) < (data3.length : Int) then
 (Option.bind (data3[(first3 + root2).toNat]?) fun e7 =>
 (if 0 ≤ (first3 + child) ∧ (first3 + child) < ((data3.set (first3 + root2).toNat e5).length : Int) then
 (Option.bind ((data3.set (first3 + root2).toNat e5)[(first3 + child).toNat]?) fun e8 =>
 (go (((data3.set (first3 + root2).toNat e5).set (first3 + child).toNat e6), hi3, first3, (), child)))
 else none))
 else none))
 else none) else none))
 else none) else none) else none) else none))))
 else none) else none))
 else none) else none)) fun J =>
 (if fits (((2 * root) + 1) + 1) then (bif (decide ((((2 * root) + 1) + 1) < hi2)) then
 (if fits (first2 + ((2 * root) + 1)) then (if 0 ≤ (first2 + ((2 * root) + 1)) ∧ (first2 + ((2 * root) + 1)) < (data2.length : Int) then
 (Option.bind (data2[(first2 + ((2 * root) + 1)).toNat]?) fun e =>
 (if fits (first2 + ((2 * root) + 1)) then (if fits ((first2 + ((2 * root) + 1)) + 1) then (if 0 ≤ ((first2 + ((2 * root) + 1)) + 1) ∧ ((first2 + ((2 * root) + 1)) + 1) < (data2.length : Int) then
 (Option.bind (data2[((first2 + ((2 * root) + 1)) + 1).toNat]?) fun e2 =>
 (Option.bind (i_SegOf_1_m N e.1 e.2.1 e.2.2 e2.1 e2.2.1 e2.2.2) fun r =>
 (bif (decide (r < 0)) then
 (if fits (((2 * root) + 1) + 1) then (J (data2, hi2, first2, (), root, (((2 * root) + 1) + 1))) else none)
 else
 (J (data2, hi2, first2, (), root, ((2 * root) + 1))))))
 else none) else none) else none))
 else none) else none)
 else
 (J (data2, hi2, first2, (), root, ((2 * root) + 1)))) else none))) else none) else none)) N (data, hi, first, (), lo))
def k_slices_siftDownCmpFunc_50_M (N : Nat) : Model := ⟨k_slices_siftDownCmpFunc_50_arg, k_slices_siftDownCmpFunc_50_ret, fun a => k_slices_siftDownCmpFunc_50_m N a.1 a.2.1 a.2.2.1 a.2.2.2.1 a.2.2.2.2⟩
set_option maxRecDepth 1000000 in
theorem k_slices_siftDownCmpFunc_50_ok (N : Nat) : ModelOk Tryz.prog 142 (k_slices_siftDownCmpFunc_50_M N) :=
  modelOk_of (E := mkEnv [(68, i_SegOf_1_M N)] [] [800000]) (mkEnv_ok (fnsOk_cons (i_SegOf_1_ok N) fnsOk_nil) _ _) Tryz.func142 (by kernel_rfl) rfl N k_slices_siftDownCmpFunc_50_h (k_slices_siftDownCmpFunc_50_M N) (by kernel_rfl) (by kernel_rfl) (fun a => by kernel_rfl)
/-! slices.heapSortCmpFunc[loop.example/fossick/impl.Entry] -/
def k_slices_heapSortCmpFunc_198_arg : Sh := ⟨[.mtk 800000 (.pair .str (.pair .str (.sl (.pair (.int .i64) (.sl (.int .i64)))))) 66 false, .pv (.int .i64), .pv (.int .i64), .clo 68 []], []⟩
def k_slices_heapSortCmpFunc_198_ret : Sh := ⟨[.tup [], .mtk 800000 (.pair .str (.pair .str (.sl (.pair (.int .i64) (.sl (.int .i64)))))) 66 false], []⟩
def k_slices_heapSortCmpFunc_198_s1 : Sh := ⟨.mtk 800000 Y3 66 false :: .dead :: .dead :: .clo 68 [] :: dz 4 (.pv (.int .i64) :: .pv (.int .i64) :: .pv (.int .i64) :: .pv (.int .i64) :: dz 48 []), []⟩
def k_slices_heapSortCmpFunc_198_s2 : Sh := ⟨.mtk 800000 Y3 66 false :: .dead :: .dead :: .clo 68 [] :: dz 4 (.pv (.int .i64) :: .pv (.int .i64) :: .dead :: .dead :: .pv (.int .i64) :: dz 47 []), []⟩
def k_slices_heapSortCmpFunc_198_h : Hint := (.seq .no (.seq .no (.seq .no (.seq (.seq .no (.block (.loop k_slices_heapSortCmpFunc_198_s1 .no))) (.seq .no (.block (.loop k_slices_heapSortCmpFunc_198_s2 .no)))))))
def k_slices_heapSortCmpFunc_198_m (N : Nat) (data : List ((List UInt8) × (List UInt8) × (List (Int × (List Int))))) (a : Int) (b : Int) (cmp : Unit) : Option ((List ((List UInt8) × (List UInt8) × (List (Int × (List Int)))))) :=
 (if fits (b - a) then (if fits ((b - a) - 1) then (if 2 ≠ 0 then
 (if fits (((b - a) - 1).tdiv 2) then (iter (fun go (g : (List ((List UInt8) × (List UInt8) × (List (Int × (List Int))))) × Unit × Int × Int × Int × Int) =>
 match g with
 | (data2, cmp2, first, lo, hi, i) =>
 (bif (decide ((0 : Int) ≤ i)) then
 (Option.bind (k_slices_siftDownCmpFunc_50_m N data2 i hi first ()) fun r =>
 (if fits (i - 1) then (go (r, (), first, lo, hi, (i - 1))) else none))
 else
 (if fits (hi - 1) then (iter (fun go2 (g : (List ((List UInt8) × (List UInt8) × (List (Int × (List Int))))) × Unit × Int × Int × Int) =>
 match g with
 | (data3, cmp3, first2, lo2, i2) =>
 (bif (decide ((0 : Int) ≤ i2)) then
 (if fits (first2 + i2) then (if fits (first2 + i2) then (if 0 ≤ (first2 + i2) ∧ (first2 + i2) < (data3.length : Int) then
 (Option.bind (data3[(first2 + i2).toNat]?) fun e =>
 (if 0 ≤ first2 ∧ first2 < (data3.length : Int) then
 (Option.bind (data3[first2.toNat]?) fun e2 =>
 (if 0 ≤ first2 ∧ first2 < (data3.length : Int) then
 (Option.bind (data3[first2.toNat]?) fun e3 =>
 (if 0 ≤ (first2 + i2) ∧ (first2 + i2) < ((data3.set first2.toNat e).length : Int) then
 (Option.bind ((data3.set first2.toNat e)[(first2 + i2).toNat]?) fun e4 =>
 (Option.bind (k_slices_siftDownCmpFunc_50_m N ((data3.set first2.toNat e).set (first2 + i2).toNat e2) lo2 i2 first2 ()) fun r2 =>
 (if fits (i2 - 1) then (go2 (r2, (), first2, lo2, (i2 - 1))) else none)))
 else none))
 else none))
 else none))
 else none) else none) else none)
 else
 (some data3))) N (data2, (), first, lo, (hi - 1))) else none))) N (data, (), a, 0, (b - a), (((b - a) - 1).tdiv 2))) else none)
 else none) else none) else none)
def k_slices_heapSortCmpFunc_198_M (N : Nat) : Model := ⟨k_slices_heapSortCmpFunc_198_arg, k_slices_heapSortCmpFunc_198_ret, fun a => k_slices_heapSortCmpFunc_198_m N a.1 a.2.1 a.2.2.1 a.2.2.2⟩
set_option maxRecDepth 1000000 in
theorem k_slices_heapSortCmpFunc_198_ok (N : Nat) : ModelOk Tryz.prog 121 (k_slices_heapSortCmpFunc_198_M N) :=
  modelOk_of (E := mkEnv [(142, k_slices_siftDownCmpFunc_50_M N)] [] [800000]) (mkEnv_ok (fnsOk_cons (k_slices_siftDownCmpFunc_50_ok N) fnsOk_nil) _ _) Tryz.func121 (by kernel_rfl) rfl N k_slices_heapSortCmpFunc_198_h (k_slices_heapSortCmpFunc_198_M N) (by kernel_rfl) (by kernel_rfl) (fun a => by kernel_rfl)
/-! slices.nextPowerOfTwo -/
def k_slices_nextPowerOfTwo_arg : Sh := ⟨[.pv (.int .i64)], []⟩
def k_slices_nextPowerOfTwo_ret : Sh := ⟨[.pv (.int .u64)], []⟩
def k_slices_nextPowerOfTwo_h : Hint := .no
def k_slices_nextPowerOfTwo_m (N : Nat) (length : Int) : Option (Int) :=
 (Option.bind (k_math_bits_Len_m N (IntKind.u64.wrap length)) fun r =>
 (if 0 ≤ r then
 (some (IntKind.u64.wrap ((1 : Int) * 2 ^ (min r.toNat (IntKind.bits .u64)))))
 else none))
def k_slices_nextPowerOfTwo_M (N : Nat) : Model := ⟨k_slices_nextPowerOfTwo_arg, k_slices_nextPowerOfTwo_ret, fun a => k_slices_nextPowerOfTwo_m N a⟩
set_option maxRecDepth 1000000 in
theorem k_slices_nextPowerOfTwo_ok (N : Nat) : ModelOk Tryz.prog 143 (k_slices_nextPowerOfTwo_M N) :=
  modelOk_of (E := mkEnv [(101, k_math_bits_Len_M N)] [] []) (mkEnv_ok (fnsOk_cons (k_math_bits_Len_ok N) fnsOk_nil) _ _) Tryz.func143 (by kernel_rfl) rfl N k_slices_nextPowerOfTwo_h (k_slices_nextPowerOfTwo_M N) (by kernel_rfl) (by kernel_rfl) (fun a => by kernel_rfl)
/-! (*slices.xorshift).Next -/
def k__slices_xorshift_Next_arg : Sh := ⟨[.box 900000 0], [(900000, false, [.pv (.int .u64)])]⟩
def k__slices_xorshift_Next_ret : Sh := ⟨[.pv (.int .u64)], [(900000, false, [.pv (.int .u64)])]⟩
def k__slices_xorshift_Next_h : Hint := .no
def k__slices_xorshift_Next_m (N : Nat) (b : Int) : Option (Int × Int) :=
 (if 0 ≤ (13 : Int) then
 (if 0 ≤ (7 : Int) then
 (if 0 ≤ (17 : Int) then
 (some ((bitsI .xor .u64 (bitsI .xor .u64 (bitsI .xor .u64 b (IntKind.u64.wrap (b * 2 ^ (min (13 : Int).toNat (IntKind.bits .u64))))) ((bitsI .xor .u64 b (IntKind.u64.wrap (b * 2 ^ (min (13 : Int).toNat (IntKind.bits .u64))))).fdiv (2 ^ (min (7 : Int).toNat (IntKind.bits .u64))))) (IntKind.u64.wrap ((bitsI .xor .u64 (bitsI .xor .u64 b (IntKind.u64.wrap (b * 2 ^ (min (13 : Int).toNat (IntKind.bits .u64))))) ((bitsI .xor .u64 b (IntKind.u64.wrap (b * 2 ^ (min (13 : Int).toNat (IntKind.bits .u64))))).fdiv (2 ^ (min (7 : Int).toNat (IntKind.bits .u64))))) * 2 ^ (min (17 : Int).toNat (IntKind.bits .u64))))), (bitsI .xor .u64 (bitsI .xor .u64 (bitsI .xor .u64 b (IntKind.u64.wrap (b * 2 ^ (min (13 : Int).toNat (IntKind.bits .u64))))) ((bitsI .xor .u64 b (IntKind.u64.wrap (b * 2 ^ (min (13 : Int).toNat (IntKind.bits .u64))))).fdiv (2 ^ (min (7 : Int).toNat (IntKind.bits .u64))))) (IntKind.u64.wrap ((bitsI .xor .u64 (bitsI .xor .u64 b (IntKind.u64.wrap (b * 2 ^ (min (13 : Int).toNat (IntKind.bits .u64))))) ((bitsI .xor .u64 b (IntKind.u64.wrap (b * 2 ^ (min (13 : Int).toNat (IntKind.bits .u64))))).fdiv (2 ^ (min (7 : Int).toNat (IntKind.bits .u64))))) * 2 ^ (min (17 : Int).toNat (IntKind.bits .u64)))))))
 else none)
 else none)
 else none)
def k__slices_xorshift_Next_M (N : Nat) : Model := ⟨k__slices_xorshift_Next_arg, k__slices_xorshift_Next_ret, fun a => k__slices_xorshift_Next_m N a⟩
set_option maxRecDepth 1000000 in
theorem k__slices_xorshift_Next_ok (N : Nat) : ModelOk Tryz.prog 144 (k__slices_xorshift_Next_M N) :=
  modelOk_of (E := mkEnv [] [] [900000]) (mkEnv_ok fnsOk_nil _ _) Tryz.func144 (by kernel_rfl) rfl N k__slices_xorshift_Next_h (k__slices_xorshift_Next_M N) (by kernel_rfl) (by kernel_rfl) (fun a => by kernel_rfl)
/-! slices.breakPatternsCmpFunc[loop.example/fossick/impl.Entry] -/
def k_slices_breakPatternsCmpFunc_906_arg : Sh := ⟨[.mtk 800000 (.pair .str (.pair .str (.sl (.pair (.int .i64) (.sl (.int .i64)))))) 66 false, .pv (.int .i64), .pv (.int .i64), .clo 68 []], []⟩
def k_slices_breakPatternsCmpFunc_906_ret : Sh := ⟨[.tup [], .mtk 800000 (.pair .str (.pair .str (.sl (.pair (.int .i64) (.sl (.int .i64)))))) 66 false], []⟩
def k_slices_breakPatternsCmpFunc_906_s1 : Sh := ⟨.mtk 800000 Y3 66 false :: .pv (.int .i64) :: dz 6 (.pv (.int .i64) :: .box 9 0 :: .pv (.int .u64) :: .pv (.int .i64) :: dz 55 []), [(9, false, [.pv (.int .u64)])]⟩
def k_slices_breakPatternsCmpFunc_906_s2 : Sh := ⟨.mtk 800000 Y3 66 false :: .pv (.int .i64) :: dz 6 (.pv (.int .i64) :: .box 9 0 :: .pv (.int .u64) :: .pv (.int .i64) :: .pv (.int .i64) :: dz 54 []), [(9, false, [.pv (.int .u64)])]⟩
def k_slices_breakPatternsCmpFunc_906_h : Hint := (.seq .no (.seq .no (.cond (.seq .no (.seq .no (.seq .no (.block (.loop k_slices_breakPatternsCmpFunc_906_s1 (.seq .no (.seq (.block (.seq .no (.meet k_slices_breakPatternsCmpFunc_906_s2 .no .no))) .no))))))) .no)))
def k_slices_breakPatternsCmpFunc_906_m (N : Nat) (data : List ((List UInt8) × (List UInt8) × (List (Int × (List Int))))) (a : Int) (b : Int) (cmp : Unit) : Option ((List ((List UInt8) × (List UInt8) × (List (Int × (List Int)))))) :=
 (if fits (b - a) then (bif (decide ((8 : Int) ≤ (b - a))) then
 (Option.bind (k_slices_nextPowerOfTwo_m N (b - a)) fun r =>
 (if 4 ≠ 0 then
 (if fits ((b - a).tdiv 4) then (if fits (((b - a).tdiv 4) * 2) then (if fits (a + (((b - a).tdiv 4) * 2)) then (if fits ((a + (((b - a).tdiv 4) * 2)) - 1) then (iter (fun go (g : (List ((List UInt8) × (List UInt8) × (List (Int × (List Int))))) × Int × Int × Int × Int × Int) =>
 match g with
 | (data2, a2, length, modulus, idx0, random) =>
 (if 4 ≠ 0 then
 (if fits (length.tdiv 4) then (if fits ((length.tdiv 4) * 2) then (if fits (a2 + ((length.tdiv 4) * 2)) then (if fits ((a2 + ((length.tdiv 4) * 2)) + 1) then (bif (decide (idx0 ≤ ((a2 + ((length.tdiv 4) * 2)) + 1))) then
 (Option.bind (k__slices_xorshift_Next_m N random) fun r2 =>
 (meet (fun (g : (List ((List UInt8) × (List UInt8) × (List (Int × (List Int))))) × Int × Int × Int × Int × Int × Int) =>
 match g with
 | (data3, a3, length2, modulus2, idx02, other, random2) =>
 (if fits (a3 + other) then (if fits (a3 + other) then (if 0 ≤ (a3 + other) ∧ (a3 + other) < (data3.length : Int) then
 (Option.bind (data3[(a3 + other).toNat]?) fun e =>
 (if 0 ≤ idx02 ∧ idx02 < (data3.length : Int) then
 (Option.bind (data3[idx02.toNat]?) fun e2 =>
 (if 0 ≤ idx02 ∧ idx02 < (data3.length : Int) then
 (Option.bind (data3[idx02.toNat]?) fun e3 =>
 (if 0 ≤ (a3 + other) ∧ (a3 + other) < ((data3.set idx02.toNat e).length : Int) then
 (Option.bind ((data3.set idx02.toNat e)[(a3 + other).toNat]?) fun e4 =>
 (if fits (idx02 + 1) then (go (((data3.set idx02.toNat e).set (a3 + other).toNat e2), a3, length2, modulus2, (idx02 + 1), random2)) else none))
 else none))
 else none))
 else none))
 else none) else none) else none)) fun J =>
 (bif (decide (length ≤ (IntKind.i64.wrap (bitsI .and .u64 r2.1 (IntKind.u64.wrap (modulus - 1)))))) then
 (if fits ((IntKind.i64.wrap (bitsI .and .u64 r2.1 (IntKind.u64.wrap (modulus - 1)))) - length) then (J (data2, a2, length, modulus, idx0, ((IntKind.i64.wrap (bitsI .and .u64 r2.1 (IntKind.u64.wrap (modulus - 1)))) - length), r2.2)) else none)
 else
 (J (data2, a2, length, modulus, idx0, (IntKind.i64.wrap (bitsI .and .u64 r2.1 (IntKind.u64.wrap (modulus - 1)))), r2.2)))))
 else
 (some data2)) else none) else none) else none) else none)
 else none)) N (data, a, (b - a), r, ((a + (((b - a).tdiv 4) * 2)) - 1), (IntKind.u64.wrap (b - a)))) else none) else none) else none) else none)
 else none))
 else
 (some data)) else none)
def k_slices_breakPatternsCmpFunc_906_M (N : Nat) : Model := ⟨k_slices_breakPatternsCmpFunc_906_arg, k_slices_breakPatternsCmpFunc_906_ret, fun a => k_slices_breakPatternsCmpFunc_906_m N a.1 a.2.1 a.2.2.1 a.2.2.2⟩
set_option maxRecDepth 1000000 in
theorem k_slices_breakPatternsCmpFunc_906_ok (N : Nat) : ModelOk Tryz.prog 122 (k_slices_breakPatternsCmpFunc_906_M N) :=
  modelOk_of (E := mkEnv [(143, k_slices_nextPowerOfTwo_M N), (144, k__slices_xorshift_Next_M N)] [] [800000]) (mkEnv_ok (fnsOk_cons (k_slices_nextPowerOfTwo_ok N) (fnsOk_cons (k__slices_xorshift_Next_ok N) fnsOk_nil)) _ _) Tryz.func122 (by kernel_rfl) rfl N k_slices_breakPatternsCmpFunc_906_h (k_slices_breakPatternsCmpFunc_906_M N) (by kernel_rfl) (by kernel_rfl) (fun a => by kernel_rfl)
/-! slices.order2CmpFunc[loop.example/fossick/impl.Entry] -/
def k_slices_order2CmpFunc_275_arg : Sh := ⟨[.mtk 800000 (.pair .str (.pair .str (.sl (.pair (.int .i64) (.sl (.int .i64)))))) 66 false, .pv (.int .i64), .pv (.int .i64), .box 900003 0, .clo 68 []], [(900003, false, [.pv (.int .i64)])]⟩
def k_slices_order2CmpFunc_275_ret : Sh := ⟨[.tup [.pv (.int .i64), .pv (.int .i64)], .mtk 800000 (.pair .str (.pair .str (.sl (.pair (.int .i64) (.sl (.int .i64)))))) 66 false], [(900003, false, [.pv (.int .i64)])]⟩
def k_slices_order2CmpFunc_275_h : Hint := .no
def k_slices_order2CmpFunc_275_m (N : Nat) (data : List ((List UInt8) × (List UInt8) × (List (Int × (List Int))))) (a : Int) (b : Int) (cmp : Unit) (b2 : Int) : Option (Int × Int × (List ((List UInt8) × (List UInt8) × (List (Int × (List Int))))) × Int) :=
 (if 0 ≤ b ∧ b < (data.length : Int) then
 (Option.bind (data[b.toNat]?) fun e =>
 (if 0 ≤ a ∧ a < (data.length : Int) then
 (Option.bind (data[a.toNat]?) fun e2 =>
 (Option.bind (i_SegOf_1_m N e.1 e.2.1 e.2.2 e2.1 e2.2.1 e2.2.2) fun r =>
 (bif (decide (r < 0)) then
 (if fits (b2 + 1) then (some (b, a, data, (b2 + 1))) else none)
 else
 (some (a, b, data, b2)))))
 else none))
 else none)
def k_slices_order2CmpFunc_275_M (N : Nat) : Model := ⟨k_slices_order2CmpFunc_275_arg, k_slices_order2CmpFunc_275_ret, fun a => k_slices_order2CmpFunc_275_m N a.1 a.2.1 a.2.2.1 a.2.2.2.1 a.2.2.2.2⟩
set_option maxRecDepth 1000000 in
theorem k_slices_order2CmpFunc_275_ok (N : Nat) : ModelOk Tryz.prog 153 (k_slices_order2CmpFunc_275_M N) :=
  modelOk_of (E := mkEnv [(68, i_SegOf_1_M N)] [] [900003, 800000]) (mkEnv_ok (fnsOk_cons (i_SegOf_1_ok N) fnsOk_nil) _ _) Tryz.func153 (by kernel_rfl) rfl N k_slices_order2CmpFunc_275_h (k_slices_order2CmpFunc_275_M N) (by kernel_rfl) (by kernel_rfl) (fun a => by kernel_rfl)
/-! slices.medianCmpFunc[loop.example/fossick/impl.Entry] -/
def k_slices_medianCmpFunc_125_arg : Sh := ⟨[.mtk 800000 (.pair .str (.pair .str (.sl (.pair (.int .i64) (.sl (.int .i64)))))) 66 false, .pv (.int .i64), .pv (.int .i64), .pv (.int .i64), .box 900004 0, .clo 68 []], [(900004, false, [.pv (.int .i64)])]⟩
def k_slices_medianCmpFunc_125_ret : Sh := ⟨[.pv (.int .i64), .mtk 800000 (.pair .str (.pair .str (.sl (.pair (.int .i64) (.sl (.int .i64)))))) 66 false], [(900004, false, [.pv (.int .i64)])]⟩
def k_slices_medianCmpFunc_125_h : Hint := .no
def k_slices_medianCmpFunc_125_m (N : Nat) (data : List ((List UInt8) × (List UInt8) × (List (Int × (List Int))))) (a : Int) (b : Int) (c : Int) (cmp : Unit) (b2 : Int) : Option (Int × (List ((List UInt8) × (List UInt8) × (List (Int × (List Int))))) × Int) :=
 (Option.bind (k_slices_order2CmpFunc_275_m N data a b () b2) fun r =>
 (Option.bind (k_slices_order2CmpFunc_275_m N r.2.2.1 r.2.1 c () r.2.2.2) fun r2 =>
 (Option.bind (k_slices_order2CmpFunc_275_m N r2.2.2.1 r.1 r2.1 () r2.2.2.2) fun r3 =>
 (some (r3.2.1, r3.2.2.1, r3.2.2.2)))))
def k_slices_medianCmpFunc_125_M (N : Nat) : Model := ⟨k_slices_medianCmpFunc_125_arg, k_slices_medianCmpFunc_125_ret, fun a => k_slices_medianCmpFunc_125_m N a.1 a.2.1 a.2.2.1 a.2.2.2.1 a.2.2.2.2.1 a.2.2.2.2.2⟩
set_option maxRecDepth 1000000 in
theorem k_slices_medianCmpFunc_125_ok (N : Nat) : ModelOk Tryz.prog 146 (k_slices_medianCmpFunc_125_M N) :=
  modelOk_of (E := mkEnv [(153, k_slices_order2CmpFunc_275_M N)] [] [900004, 800000]) (mkEnv_ok (fnsOk_cons (k_slices_order2CmpFunc_275_ok N) fnsOk_nil) _ _) Tryz.func146 (by kernel_rfl) rfl N k_slices_medianCmpFunc_125_h (k_slices_medianCmpFunc_125_M N) (by kernel_rfl) (by kernel_rfl) (fun a => by kernel_rfl)
/-! slices.medianAdjacentCmpFunc[loop.example/fossick/impl.Entry] -/
def k_slices_medianAdjacentCmpFunc_179_arg : Sh := ⟨[.mtk 800000 (.pair .str (.pair .str (.sl (.pair (.int .i64) (.sl (.int .i64)))))) 66 false, .pv (.int .i64), .box 900002 0, .clo 68 []], [(900002, false, [.pv (.int .i64)])]⟩
def k_slices_medianAdjacentCmpFunc_179_ret : Sh := ⟨[.pv (.int .i64), .mtk 800000 (.pair .str (.pair .str (.sl (.pair (.int .i64) (.sl (.int .i64)))))) 66 false], [(900002, false, [.pv (.int .i64)])]⟩
def k_slices_medianAdjacentCmpFunc_179_h : Hint := .no
def k_slices_medianAdjacentCmpFunc_179_m (N : Nat) (data : List ((List UInt8) × (List UInt8) × (List (Int × (List Int))))) (a : Int) (cmp : Unit) (b : Int) : Option (Int × (List ((List UInt8) × (List UInt8) × (List (Int × (List Int))))) × Int) :=
 (if fits (a - 1) then (if fits (a + 1) then (Option.bind (k_slices_medianCmpFunc_125_m N data (a - 1) a (a + 1) () b) fun r =>
 (some (r.1, r.2.1, r.2.2))) else none) else none)
def k_slices_medianAdjacentCmpFunc_179_M (N : Nat) : Model := ⟨k_slices_medianAdjacentCmpFunc_179_arg, k_slices_medianAdjacentCmpFunc_179_ret, fun a => k_slices_medianAdjacentCmpFunc_179_m N a.1 a.2.1 a.2.2.1 a.2.2.2⟩
set_option maxRecDepth 1000000 in
theorem k_slices_medianAdjacentCmpFunc_179_ok (N : Nat) : ModelOk Tryz.prog 145 (k_slices_medianAdjacentCmpFunc_179_M N) :=
  modelOk_of (E := mkEnv [(146, k_slices_medianCmpFunc_125_M N)] [] [900002, 800000]) (mkEnv_ok (fnsOk_cons (k_slices_medianCmpFunc_125_ok N) fnsOk_nil) _ _) Tryz.func145 (by kernel_rfl) rfl N k_slices_medianAdjacentCmpFunc_179_h (k_slices_medianAdjacentCmpFunc_179_M N) (by kernel_rfl) (by kernel_rfl) (fun a => by kernel_rfl)
/-! slices.choosePivotCmpFunc[loop.example/fossick/impl.Entry] -/
def k_slices_choosePivotCmpFunc_68_arg : Sh := ⟨[.mtk 800000 (.pair .str (.pair .str (.sl (.pair (.int .i64) (.sl (.int .i64)))))) 66 false, .pv (.int .i64), .pv (.int .i64), .clo 68 []], []⟩
def k_slices_choosePivotCmpFunc_68_ret : Sh := ⟨[.tup [.pv (.int .i64), .pv (.int .i64)], .mtk 800000 (.pair .str (.pair .str (.sl (.pair (.int .i64) (.sl (.int .i64)))))) 66 false], []⟩
def k_slices_choosePivotCmpFunc_68_s1 : Sh := ⟨.mtk 800000 Y3 66 false :: .dead :: .dead :: .clo 68 [] :: dz 7 (.box 11 0 :: .pv (.int .i64) :: .pv (.int .i64) :: .pv (.int .i64) :: dz 48 []), [(11, false, [.pv (.int .i64)])]⟩
def k_slices_choosePivotCmpFunc_68_s2 : Sh := ⟨.mtk 800000 Y3 66 false :: dz 10 (.box 11 0 :: .dead :: .pv (.int .i64) :: dz 49 []), [(11, false, [.pv (.int .i64)])]⟩
def k_slices_choosePivotCmpFunc_68_h : Hint := (.seq .no (.seq .no (.seq .no (.seq .no (.seq .no (.seq .no (.meet k_slices_choosePivotCmpFunc_68_s2 (.seq .no (.cond (.meet k_slices_choosePivotCmpFunc_68_s1 .no .no) .no)) .no)))))))
def k_slices_choosePivotCmpFunc_68_m (N : Nat) (data : List ((List UInt8) × (List UInt8) × (List (Int × (List Int))))) (a : Int) (b : Int) (cmp : Unit) : Option (Int × Int × (List ((List UInt8) × (List UInt8) × (List (Int × (List Int)))))) :=
 (if fits (b - a) then (if 4 ≠ 0 then
 (if fits ((b - a).tdiv 4) then (if fits (((b - a).tdiv 4) * 1) then (if fits (a + (((b - a).tdiv 4) * 1)) then (if 4 ≠ 0 then
 (if fits ((b - a).tdiv 4) then (if fits (((b - a).tdiv 4) * 2) then (if fits (a + (((b - a).tdiv 4) * 2)) then (if 4 ≠ 0 then
 (if fits ((b - a).tdiv 4) then (if fits (((b - a).tdiv 4) * 3) then (if fits (a + (((b - a).tdiv 4) * 3)) then (meet (fun (g : (List ((List UInt8) × (List UInt8) × (List (Int × (List Int))))) × Int × Int) =>
 match g with
 | (data3, j2, swaps2) =>
 (bif (decide (swaps2 = 0)) then
 (some (j2, 1, data3))
 else
 (bif (decide (swaps2 = 12)) then
 (some (j2, 2, data3))
 else
 (some (j2, 0, data3))))) fun J =>
 (bif (decide ((8 : Int) ≤ (b - a))) then
 (meet (fun (g : (List ((List UInt8) × (List UInt8) × (List (Int × (List Int))))) × Unit × Int × Int × Int × Int) =>
 match g with
 | (data2, cmp2, i, j, k, swaps) =>
 (Option.bind (k_slices_medianCmpFunc_125_m N data2 i j k () swaps) fun r4 =>
 (J (r4.2.1, r4.1, r4.2.2)))) fun J2 =>
 (bif (decide ((50 : Int) ≤ (b - a))) then
 (Option.bind (k_slices_medianAdjacentCmpFunc_179_m N data (a + (((b - a).tdiv 4) * 1)) () 0) fun r =>
 (Option.bind (k_slices_medianAdjacentCmpFunc_179_m N r.2.1 (a + (((b - a).tdiv 4) * 2)) () r.2.2) fun r2 =>
 (Option.bind (k_slices_medianAdjacentCmpFunc_179_m N r2.2.1 (a + (((b - a).tdiv 4) * 3)) () r2.2.2) fun r3 =>
 (J2 (r3.2.1, (), r.1, r2.1, r3.1, r3.2.2)))))
 else
 (J2 (data, (), (a + (((b - a).tdiv 4) * 1)), (a + (((b - a).tdiv 4) * 2)), (a + (((b - a).tdiv 4) * 3)), 0))))
 else
 (J (data, (a + (((b - a).tdiv 4) * 2)), 0)))) else none) else none) else none)
 else none) else none) else none) else none)
 else none) else none) else none) else none)
 else none) else none)
def k_slices_choosePivotCmpFunc_68_M (N : Nat) : Model := ⟨k_slices_choosePivotCmpFunc_68_arg, k_slices_choosePivotCmpFunc_68_ret, fun a => k_slices_choosePivotCmpFunc_68_m N a.1 a.2.1 a.2.2.1 a.2.2.2⟩
set_option maxRecDepth 1000000 in
theorem k_slices_choosePivotCmpFunc_68_ok (N : Nat) : ModelOk Tryz.prog 123 (k_slices_choosePivotCmpFunc_68_M N) :=
  modelOk_of (E := mkEnv [(145, k_slices_medianAdjacentCmpFunc_179_M N), (146, k_slices_medianCmpFunc_125_M N)] [] [800000]) (mkEnv_ok (fnsOk_cons (k_slices_medianAdjacentCmpFunc_179_ok N) (fnsOk_cons (k_slices_medianCmpFunc_125_ok N) fnsOk_nil)) _ _) Tryz.func123 (by kernel_rfl) rfl N k_slices_choosePivotCmpFunc_68_h (k_slices_choosePivotCmpFunc_68_M N) (by kernel_rfl) (by kernel_rfl) (fun a => by kernel_rfl)
/-! slices.reverseRangeCmpFunc[loop.example/fossick/impl.Entry] -/
def k_slices_reverseRangeCmpFunc_751_arg : Sh := ⟨[.mtk 800000 (.pair .str (.pair .str (.sl (.pair (.int .i64) (.sl (.int .i64)))))) 66 false, .pv (.int .i64), .pv (.int .i64), .clo 68 []], []⟩
def k_slices_reverseRangeCmpFunc_751_ret : Sh := ⟨[.tup [], .mtk 800000 (.pair .str (.pair .str (.sl (.pair (.int .i64) (.sl (.int .i64)))))) 66 false], []⟩
def k_slices_reverseRangeCmpFunc_751_s1 : Sh := ⟨.mtk 800000 Y3 66 false :: dz 7 (.pv (.int .i64) :: .pv (.int .i64) :: dz 24 []), []⟩
def k_slices_reverseRangeCmpFunc_751_h : Hint := (.seq .no (.seq .no (.block (.loop k_slices_reverseRangeCmpFunc_751_s1 .no))))
def k_slices_reverseRangeCmpFunc_751_m (N : Nat) (data : List ((List UInt8) × (List UInt8) × (List (Int × (List Int))))) (a : Int) (b : Int) (cmp : Unit) : Option ((List ((List UInt8) × (List UInt8) × (List (Int × (List Int)))))) :=
 (if fits (b - 1) then (iter (fun go (g : (List ((List UInt8) × (List UInt8) × (List (Int × (List Int))))) × Int × Int) =>
 match g with
 | (data2, i, j) =>
 (bif (decide (i < j)) then
 (if 0 ≤ j ∧ j < (data2.length : Int) then
 (Option.bind (data2[j.toNat]?) fun e =>
 (if 0 ≤ i ∧ i < (data2.length : Int) then
 (Option.bind (data2[i.toNat]?) fun e2 =>
 (if 0 ≤ i ∧ i < (data2.length : Int) then
 (Option.bind (data2[i.toNat]?) fun e3 =>
 (if 0 ≤ j ∧ j < ((data2.set i.toNat e).length : Int) then
 (Option.bind ((data2.set i.toNat e)[j.toNat]?) fun e4 =>
 (if fits (i + 1) then (if fits (j - 1) then (go (((data2.set i.toNat e).set j.toNat e2), (i + 1), (j - 1))) else none) else none))
 else none))
 else none))
 else none))
 else none)
 else
 (some data2))) N (data, a, (b - 1))) else none)
def k_slices_reverseRangeCmpFunc_751_M (N : Nat) : Model := ⟨k_slices_reverseRangeCmpFunc_751_arg, k_slices_reverseRangeCmpFunc_751_ret, fun a => k_slices_reverseRangeCmpFunc_751_m N a.1 a.2.1 a.2.2.1 a.2.2.2⟩
set_option maxRecDepth 1000000 in
theorem k_slices_reverseRangeCmpFunc_751_ok (N : Nat) : ModelOk Tryz.prog 124 (k_slices_reverseRangeCmpFunc_751_M N) :=
  modelOk_of (E := mkEnv [] [] [800000]) (mkEnv_ok fnsOk_nil _ _) Tryz.func124 (by kernel_rfl) rfl N k_slices_reverseRangeCmpFunc_751_h (k_slices_reverseRangeCmpFunc_751_M N) (by kernel_rfl) (by kernel_rfl) (fun a => by kernel_rfl)
/-! slices.partialInsertionSortCmpFunc[loop.example/fossick/impl.Entry] -/
def k_slices_partialInsertionSortCmpFunc_222_arg : Sh := ⟨[.mtk 800000 (.pair .str (.pair .str (.sl (.pair (.int .i64) (.sl (.int .i64)))))) 66 false, .pv (.int .i64), .pv (.int .i64), .clo 68 []], []⟩
def k_slices_partialInsertionSortCmpFunc_222_ret : Sh := ⟨[.pv .bool, .mtk 800000 (.pair .str (.pair .str (.sl (.pair (.int .i64) (.sl (.int .i64)))))) 66 false], []⟩
def k_slices_partialInsertionSortCmpFunc_222_s1 : Sh := ⟨.mtk 800000 Y3 66 false :: .pv (.int .i64) :: .pv (.int .i64) :: .clo 68 [] :: dz 5 (.pv (.int .i64) :: .pv (.int .i64) :: dz 130 []), []⟩
def k_slices_partialInsertionSortCmpFunc_222_s2 : Sh := ⟨.mtk 800000 Y3 66 false :: .pv (.int .i64) :: .pv (.int .i64) :: .clo 68 [] :: dz 5 (.pv (.int .i64) :: .pv (.int .i64) :: dz 130 []), []⟩
def k_slices_partialInsertionSortCmpFunc_222_s3 : Sh := ⟨.mtk 800000 Y3 66 false :: .pv (.int .i64) :: .pv (.int .i64) :: .clo 68 [] :: dz 5 (.pv (.int .i64) :: .pv (.int .i64) :: .pv (.int .i64) :: dz 129 []), []⟩
def k_slices_partialInsertionSortCmpFunc_222_s4 : Sh := ⟨.mtk 800000 Y3 66 false :: .pv (.int .i64) :: .pv (.int .i64) :: .clo 68 [] :: dz 5 (.pv (.int .i64) :: .pv (.int .i64) :: .dead :: .pv (.int .i64) :: dz 128 []), []⟩
def k_slices_partialInsertionSortCmpFunc_222_s5 : Sh := ⟨.mtk 800000 Y3 66 false :: .pv (.int .i64) :: .pv (.int .i64) :: .clo 68 [] :: dz 5 (.pv (.int .i64) :: .pv (.int .i64) :: dz 130 []), []⟩
def k_slices_partialInsertionSortCmpFunc_222_h : Hint := (.seq .no (.seq .no (.seq (.seq .no (.block (.loop k_slices_partialInsertionSortCmpFunc_222_s1 (.seq .no (.seq (.block (.seq (.block (.loop k_slices_partialInsertionSortCmpFunc_222_s2 .no)) (.seq .no (.seq .no (.seq .no (.meet k_slices_partialInsertionSortCmpFunc_222_s5 (.seq .no (.cond (.seq .no (.block (.loop k_slices_partialInsertionSortCmpFunc_222_s3 .no))) .no)) (.seq .no (.cond (.seq .no (.block (.loop k_slices_partialInsertionSortCmpFunc_222_s4 .no))) .no)))))))) .no))))) .no)))
def k_slices_partialInsertionSortCmpFunc_222_m (N : Nat) (data : List ((List UInt8) × (List UInt8) × (List (Int × (List Int))))) (a : Int) (b : Int) (cmp : Unit) : Option (Bool × (List ((List UInt8) × (List UInt8) × (List (Int × (List Int)))))) :=
 (if fits (a + 1) then (iter (fun go (g : (List ((List UInt8) × (List UInt8) × (List (Int × (List Int))))) × Int × Int × Unit × Int × Int) =>
 match g with
 | (data2, a2, b2, cmp2, i, j) =>
 (bif (decide (j < 5)) then
 (iter (fun go2 (g : (List ((List UInt8) × (List UInt8) × (List (Int × (List Int))))) × Int × Int × Unit × Int × Int) =>
 match g with
 | (data3, a3, b3, cmp3, i2, j2) =>
 (bif (decide (i2 < b3)) then
 (if 0 ≤ i2 ∧ i2 < (data3.length : Int) then
 (Option.bind (data3[i2.toNat]?) fun e =>
 (if fits (i2 - 1) then (if 0 ≤ (i2 - 1) ∧ (i2 - 1) < (data3.length : Int) then
 (Option.bind (data3[(i2 - 1).toNat]?) fun e2 =>
 (Option.bind (i_SegOf_1_m N e.1 e.2.1 e.2.2 e2.1 e2.2.1 e2.2.2) fun r =>
 (bif (!(decide (r < 0))) then
 (if fits (i2 + 1) then (go2 (data3, a3, b3, (), (i2 + 1), j2)) else none)
 else
 (bif (decide (i2 = b3)) then
 (some (true, data3))
 else
 (if fits (b3 - a3) then (bif (decide ((b3 - a3) < 50)) then
 (some (false, data3))
 else
 (if fits (i2 - 1) then (if fits (i2 - 1) then (if 0 ≤ (i2 - 1) ∧ (i2 - 1) < (data3.length : Int) then
 (Option.bind (data3[(i2 - 1).toNat]?) fun e3 =>
 (if 0 ≤ i2 ∧ i2 < (data3.length : Int) then
 (Option.bind (data3[i2.toNat]?) fun e4 =>
 (if 0 ≤ i2 ∧ i2 < (data3.length : Int) then
 (Option.bind (data3[i2.toNat]?) fun e5 =>
 (if 0 ≤ (i2 - 1) ∧ (i2 - 1) < ((data3.set i2.toNat e3).length : Int) then
 (Option.bind ((data3.set i2.toNat e3)[(i2 - 1).toNat]?) fun e6 =>
 (meet (fun (g : (List ((List UInt8) × (List UInt8) × (List (Int × (List Int))))) × Int × Int × Unit × Int × Int) =>
 match g with
 | (data5, a5, b5, cmp5, i4, j5) =>
 (if fits (b5 - i4) then (bif (decide ((2 : Int) ≤ (b5 - i4))) then
 (if fits (i4 + 1) then (iter (fun go4 (g : (List ((List UInt8) × (List UInt8) × (List (Int × (List Int))))) × Int × Int × Unit × Int × Int × Int) =>
 match g with
 | (data6, a6, b6, cmp6, i5, j6, j7) =>
 (bif (decide (j7 < b6)) then
 (if 0 ≤ j7 ∧ j7 < (data6.length : Int) then
 (Option.bind (data6[j7.toNat]?) fun e13 =>
 (if fits (j7 - 1) then (if 0 ≤ (j7 - 1) ∧ (j7 - 1) < (data6.length : Int) then
 (Option.bind (data6[(j7 - 1).toNat]?) fun e14 =>
 (Option.bind (i_SegOf_1_m N e13.1 e13.2.1 e13.2.2 e14.1 e14.2.1 e14.2.2) fun r3 =>
 (bif (!(decide (r3 < 0))) then
 (if fits (j6 + 1) then (go (data6, a6, b6, (), i5, (j6 + 1))) else none)
 else
 (if fits (j7 - 1) then (if fits (j7 - 1) then (if 0 ≤ (j7 - 1) ∧ (j7 - 1) < (data6.length : Int) then
 (Option.bind (data6[(j7 - 1).toNat]?) fun e15 =>
 (if 0 ≤ j7 ∧ j7 < (data6.length : Int) then
 (Option.bind (data6[j7.toNat]?) fun e16 =>
 (if 0 ≤ j7 ∧ j7 < (data6.length : Int) then
 (Option.bind (data6[j7.toNat]?) fun e17 =>
 (if 0 ≤ (j7 - 1) ∧ (j7 - 1) < ((data6.set j7.toNat e15).length : Int) then
 (Option.bind ((data6.set j7.toNat e15)[(j7 - 1).toNat]?) fun e18 =>
 (if fits (j7 + 1) then (go4 (((data6.set j7.toNat e15).set (j7 - 1).toNat e16), a6, b6, (), i5, j6, (j7 + 1))) else none))
 else none))
 else none))
 else none))
 else none) else none) else none))))
 else none) else none))
 else none)
 else
 (if fits (j6 + 1) then (go (data6, a6, b6, (), i5, (j6 + 1))) else none))) N (data5, a5, b5, (), i4, j5, (i4 + 1))) else none)
 else
 (if fits (j5 + 1) then (go (data5, a5, b5, (), i4, (j5 + 1))) else none)) else none)) fun J =>
 (if fits (i2 - a3) then (bif (decide ((2 : Int) ≤ (i2 - a3))) then
 (if fits (i2 - 1) then (iter (fun go3 (g : (List ((List UInt8) × (List UInt8) × (List (Int × (List Int))))) × Int × Int × Unit × Int × Int × Int) =>
 match g with
 | (data4, a4, b4, cmp4, i3, j3, j4) =>
 (bif (decide ((1 : Int) ≤ j4)) then
 (if 0 ≤ j4 ∧ j4 < (data4.length : Int) then
 (Option.bind (data4[j4.toNat]?) fun e7 =>
 (if fits (j4 - 1) then (if 0 ≤ (j4 - 1) ∧ (j4 - 1) < (data4.length : Int) then
 (Option.bind (data4[(j4 - 1).toNat]?) fun e8 =>
 (Option.bind (i_SegOf_1_m N e7.1 e7.2.1 e7.2.2 e8.1 e8.2.1 e8.2.2) fun r2 =>
 (bif (!(decide (r2 < 0))) then
 (J (data4, a4, b4, (), i3, j3))
 else
 (if fits (j4 - 1) then (if fits (j4 - 1) then (if 0 ≤ (j4 - 1) ∧ (j4 - 1) < (data4.length : Int) then
 (Option.bind (data4[(j4 - 1).toNat]?) fun e9 =>
 (if 0 ≤ j4 ∧ j4 < (data4.length : Int) then
 (Option.bind (data4[j4.toNat]?) fun e10 =>
 (if 0 ≤ j4 ∧ j4 < (data4.length : Int) then
 (Option.bind (data4[j4.toNat]?) fun e11 =>
 (if 0 ≤ (j4 - 1) ∧ (j4 - 1) < ((data4.set j4.toNat e9).length : Int) then
 (Option.bind ((data4.set j4.toNat e9)[(j4 - 1).toNat]?) fun e12 =>
 (if fits (j4 - 1) then (go3 (((data4.set j4.toNat e9).set (j4 - 1).toNat e10), a4, b4, (), i3, j3, (j4 - 1))) else none))
 else none))
 else none))
 else none))
 else none) else none) else none))))
 else none) else none))
 else none)
 else
 (J (data4, a4, b4, (), i3, j3)))) N (((data3.set i2.toNat e3).set (i2 - 1).toNat e4), a3, b3, (), i2, j2, (i2 - 1))) else none)
 else
 (J (((data3.set i2.toNat e3).set (i2 - 1).toNat e4), a3, b3, (), i2, j2))) else none)))
 else none))
 else none))
 else none))
 else none) else none) else none)) else none)))))
 else none) else none))
 else none)
 else
 (bif (decide (i2 = b3)) then
 (some (true, data3))
 else
 (if fits (b3 - a3) then (bif (decide ((b3 - a3) < 50)) then
 (some (false, data3))
 else
 (if fits (i2 - 1) then (if fits (i2 - 1) then (if 0 ≤ (i2 - 1) ∧ (i2 - 1) < (data3.length : Int) then
 (Option.bind (data3[(i2 - 1).toNat]?) fun e19 =>
 (if 0 ≤ i2 ∧ i2 < (data3.length : Int) then
 (Option.bind (data3[i2.toNat]?) fun e20 =>
 (if 0 ≤ i2 ∧ i2 < (data3.length : Int) then
 (Option.bind (data3[i2.toNat]?) fun e21 =>
 (if 0 ≤ (i2 - 1) ∧ (i2 - 1) < ((data3.set i2.toNat e19).length : Int) then
 (Option.bind ((data3.set i2.toNat e19)[(i2 - 1).toNat]?) fun e22 =>
 (meet (fun (g : (List ((List UInt8) × (List UInt8) × (List (Int × (List Int))))) × Int × Int × Unit × Int × Int) =>
 match g with
 | (data8, a8, b8, cmp8, i7, j10) =>
 (if fits (b8 - i7) then (bif (decide ((2 : Int) ≤ (b8 - i7))) then
 (if fits (i7 + 1) then (iter (fun go6 (g : (List ((List UInt8) × (List UInt8) × (List (Int × (List Int))))) × Int × Int × Unit × Int × Int × Int) =>
 match g with
 | (data9, a9, b9, cmp9, i8, j11, j12) =>
 (bif (decide (j12 < b9)) then
 (if 0 ≤ j12 ∧ j12 < (data9.length : Int) then
 (Option.bind (data9[j12.toNat]?) fun e29 =>
 (if fits (j12 - 1) then (if 0 ≤ (j12 - 1) ∧ (j12 - 1) < (data9.length : Int) then
 (Option.bind (data9[(j12 - 1).toNat]?) fun e30 =>
 (Option.bind (i_SegOf_1_m N e29.1 e29.2.1 e29.2.2 e30.1 e30.2.1 e30.2.2) fun r5 =>
 (bif (!(decide (r5 < 0))) then
 (if fits (j11 + 1) then (go (data9, a9, b9, (), i8, (j11 + 1))) else none)
 else
 (if fits (j12 - 1) then (if fits (j12 - 1) then (if 0 ≤ (j12 - 1) ∧ (j12 - 1) < (data9.length : Int) then
 (Option.bind (data9[(j12 - 1).toNat]?) fun e31 =>
 (if 0 ≤ j12 ∧ j12 < (data9.length : Int) then
 (Option.bind (data9[j12.toNat]?) fun e32 =>
 (if 0 ≤ j12 ∧ j12 < (data9.length : Int) then
 (Option.bind (data9[j12.toNat]?) fun e33 =>
 (if 0 ≤ (j12 - 1) ∧ (j12 - 1) < ((data9.set j12.toNat e31).length : Int) then
 (Option.bind ((data9.set j12.toNat e31)[(j12 - 1).toNat]?) fun e34 =>
 (if fits (j12 + 1) then (go6 (((data9.set j12.toNat e31).set (j12 - 1).toNat e32), a9, b9, (), i8, j11, (j12 + 1))) else none))
 else none))
 else none))
 else none))
 else none) else none) else none))))
 else none) else none))
 else none)
 else
 (if fits (j11 + 1) then (go (data9, a9, b9, (), i8, (j11 + 1))) else none))) N (data8, a8, b8, (), i7, j10, (i7 + 1))) else none)
 else
 (if fits (j10 + 1) then (go (data8, a8, b8, (), i7, (j10 + 1))) else none)) else none)) fun J2 =>
 (if fits (i2 - a3) then (bif (decide ((2 : Int) ≤ (i2 - a3))) then
 (if fits (i2 - 1) then (iter (fun go5 (g : (List ((List UInt8) × (List UInt8) × (List (Int × (List Int))))) × Int × Int × Unit × Int × Int × Int) =>
 match g with
 | (data7, a7, b7, cmp7, i6, j8, j9) =>
 (bif (decide ((1 : Int) ≤ j9)) then
 (if 0 ≤ j9 ∧ j9 < (data7.length : Int) then
 (Option.bind (data7[j9.toNat]?) fun e23 =>
 (if fits (j9 - 1) then (if 0 ≤ (j9 - 1) ∧ (j9 - 1) < (data7.length : Int) then
 (Option.bind (data7[(j9 - 1).toNat]?) fun e24 =>
 (Option.bind (i_SegOf_1_m N e23.1 e23.2.1 e23.2.2 e24.1 e24.2.1 e24.2.2) fun r4 =>
 (bif (!(decide (r4 < 0))) then
 (J2 (data7, a7, b7, (), i6, j8))
 else
 (if fits (j9 - 1) then (if fits (j9 - 1) then (if 0 ≤ (j9 - 1) ∧ (j9 - 1) < (data7.length : Int) then
 (Option.bind (data7[(j9 - 1).toNat]?) fun e25 =>
 (if 0 ≤ j9 ∧ j9 < (data7.length : Int) then
 (Option.bind (data7[j9.toNat]?) fun e26 =>
 (if 0 ≤ j9 ∧ j9 < (data7.length : Int) then
 (Option.bind (data7[j9.toNat]?) fun e27 =>
 (if 0 ≤ (j9 - 1) ∧ (j9 - 1) < ((data7.set j9.toNat e25).length : Int) then
 (Option.bind ((data7.set j9.toNat e25)[(j9 - 1).toNat]?) fun e28 =>
 (if fits (j9 - 1) then (go5 (((data7.set j9.toNat e25).set (j9 - 1).toNat e26), a7, b7, (), i6, j8, (j9 - 1))) else none))
 else none))
 else none))
 else none))
 else none) else none) else none))))
 else none) else none))
 else none)
 else
 (J2 (data7, a7, b7, (), i6, j8)))) N (((data3.set i2.toNat e19).set (i2 - 1).toNat e20), a3, b3, (), i2, j2, (i2 - 1))) else none)
 else
 (J2 (((data3.set i2.toNat e19).set (i2 - 1).toNat e20), a3, b3, (), i2, j2))) else none)))
 else none))
 else none))
 else none))
 else none) else none) else none)) else none)))) N (data2, a2, b2, (), i, j))
 else
 (some (false, data2)))) N (data, a, b, (), (a + 1), 0)) else none)
def k_slices_partialInsertionSortCmpFunc_222_M (N : Nat) : Model := ⟨k_slices_partialInsertionSortCmpFunc_222_arg, k_slices_partialInsertionSortCmpFunc_222_ret, fun a => k_slices_partialInsertionSortCmpFunc_222_m N a.1 a.2.1 a.2.2.1 a.2.2.2⟩
set_option maxRecDepth 1000000 in
theorem k_slices_partialInsertionSortCmpFunc_222_ok (N : Nat) : ModelOk Tryz.prog 125 (k_slices_partialInsertionSortCmpFunc_222_M N) :=
  modelOk_of (E := mkEnv [(68, i_SegOf_1_M N)] [] [800000]) (mkEnv_ok (fnsOk_cons (i_SegOf_1_ok N) fnsOk_nil) _ _) Tryz.func125 (by kernel_rfl) rfl N k_slices_partialInsertionSortCmpFunc_222_h (k_slices_partialInsertionSortCmpFunc_222_M N) (by kernel_rfl) (by kernel_rfl) (fun a => by kernel_rfl)
/-! slices.partitionEqualCmpFunc[loop.example/fossick/impl.Entry] -/
def k_slices_partitionEqualCmpFunc_419_arg : Sh := ⟨[.mtk 800000 (.pair .str (.pair .str (.sl (.pair (.int .i64) (.sl (.int .i64)))))) 66 false, .pv (.int .i64), .pv (.int .i64), .pv (.int .i64), .clo 68 []], []⟩
def k_slices_partitionEqualCmpFunc_419_ret : Sh := ⟨[.pv (.int .i64), .mtk 800000 (.pair .str (.pair .str (.sl (.pair (.int .i64) (.sl (.int .i64)))))) 66 false], []⟩
def k_slices_partitionEqualCmpFunc_419_s1 : Sh := ⟨.mtk 800000 Y3 66 false :: .pv (.int .i64) :: .dead :: .dead :: .clo 68 [] :: dz 6 (.pv (.int .i64) :: .pv (.int .i64) :: dz 77 []), []⟩
def k_slices_partitionEqualCmpFunc_419_s2 : Sh := ⟨.mtk 800000 Y3 66 false :: .pv (.int .i64) :: .dead :: .dead :: .clo 68 [] :: dz 6 (.pv (.int .i64) :: .pv (.int .i64) :: dz 77 []), []⟩
def k_slices_partitionEqualCmpFunc_419_s3 : Sh := ⟨.mtk 800000 Y3 66 false :: .pv (.int .i64) :: .dead :: .dead :: .clo 68 [] :: dz 6 (.pv (.int .i64) :: .pv (.int .i64) :: dz 77 []), []⟩
def k_slices_partitionEqualCmpFunc_419_h : Hint := (.seq .no (.seq .no (.seq .no (.seq (.block (.loop k_slices_partitionEqualCmpFunc_419_s1 (.block (.seq (.block (.loop k_slices_partitionEqualCmpFunc_419_s2 .no)) (.seq (.block (.loop k_slices_partitionEqualCmpFunc_419_s3 .no)) .no))))) .no))))
def k_slices_partitionEqualCmpFunc_419_m (N : Nat) (data : List ((List UInt8) × (List UInt8) × (List (Int × (List Int))))) (a : Int) (b : Int) (pivot : Int) (cmp : Unit) : Option (Int × (List ((List UInt8) × (List UInt8) × (List (Int × (List Int)))))) :=
 (if 0 ≤ pivot ∧ pivot < (data.length : Int) then
 (Option.bind (data[pivot.toNat]?) fun e =>
 (if 0 ≤ a ∧ a < (data.length : Int) then
 (Option.bind (data[a.toNat]?) fun e2 =>
 (if 0 ≤ a ∧ a < (data.length : Int) then
 (Option.bind (data[a.toNat]?) fun e3 =>
 (if 0 ≤ pivot ∧ pivot < ((data.set a.toNat e).length : Int) then
 (Option.bind ((data.set a.toNat e)[pivot.toNat]?) fun e4 =>
 (if fits (a + 1) then (if fits (b - 1) then (iter (fun go (g : (List ((List UInt8) × (List UInt8) × (List (Int × (List Int))))) × Int × Unit × Int × Int) =>
 match g with
 | (data2, a2, cmp2, i, j) =>
 (iter (fun go2 (g : (List ((List UInt8) × (List UInt8) × (List (Int × (List Int))))) × Int × Unit × Int × Int) =>
 match g with
 | (data3, a3, cmp3, i2, j2) =>
 (bif (decide (i2 ≤ j2)) then
 (if 0 ≤ a3 ∧ a3 < (data3.length : Int) then
 (Option.bind (data3[a3.toNat]?) fun e5 =>
 (if 0 ≤ i2 ∧ i2 < (data3.length : Int) then
 (Option.bind (data3[i2.toNat]?) fun e6 =>
 (Option.bind (i_SegOf_1_m N e5.1 e5.2.1 e5.2.2 e6.1 e6.2.1 e6.2.2) fun r =>
 (bif (!(decide (r < 0))) then
 (if fits (i2 + 1) then (go2 (data3, a3, (), (i2 + 1), j2)) else none)
 else
 (iter (fun go3 (g : (List ((List UInt8) × (List UInt8) × (List (Int × (List Int))))) × Int × Unit × Int × Int) =>
 match g with
 | (data4, a4, cmp4, i3, j3) =>
 (bif (decide (i3 ≤ j3)) then
 (if 0 ≤ a4 ∧ a4 < (data4.length : Int) then
 (Option.bind (data4[a4.toNat]?) fun e7 =>
 (if 0 ≤ j3 ∧ j3 < (data4.length : Int) then
 (Option.bind (data4[j3.toNat]?) fun e8 =>
 (Option.bind (i_SegOf_1_m N e7.1 e7.2.1 e7.2.2 e8.1 e8.2.1 e8.2.2) fun r2 =>
 (bif (decide (r2 < 0)) then
 (if fits (j3 - 1) then (go3 (data4, a4, (), i3, (j3 - 1))) else none)
 else
 (bif (decide (j3 < i3)) then
 (some (i3, data4))
 else
 (if 0 ≤ j3 ∧ j3 < (data4.length : Int) then
 (Option.bind (data4[j3.toNat]?) fun e9 =>
 (if 0 ≤ i3 ∧ i3 < (data4.length : Int) then
 (Option.bind (data4[i3.toNat]?) fun e10 =>
 (if 0 ≤ i3 ∧ i3 < (data4.length : Int) then
 (Option.bind (data4[i3.toNat]?) fun e11 =>
 (if 0 ≤ j3 ∧ j3 < ((data4.set i3.toNat e9).length : Int) then
 (Option.bind ((data4.set i3.toNat e9)[j3.toNat]?) fun e12 =>
 (if fits (i3 + 1) then (if fits (j3 - 1) then (go (((data4.set i3.toNat e9).set j3.toNat e10), a4, (), (i3 + 1), (j3 - 1))) else none) else none))
 else none))
 else none))
 else none))
 else none)))))
 else none))
 else none)
 else
 (bif (decide (j3 < i3)) then
 (some (i3, data4))
 else
 (if 0 ≤ j3 ∧ j3 < (data4.length : Int) then
 (Option.bind (data4[j3.toNat]?) fun e13 =>
 (if 0 ≤ i3 ∧ i3 < (data4.length : Int) then
 (Option.bind (data4[i3.toNat]?) fun e14 =>
 (if 0 ≤ i3 ∧ i3 < (data4.length : Int) then
 (Option.bind (data4[i3.toNat]?) fun e15 =>
 (if 0 ≤ j3 ∧ j3 < ((data4.set i3.toNat e13).length : Int) then
 (Option.bind ((data4.set i3.toNat e13)[j3.toNat]?) fun e16 =>
 (if fits (i3 + 1) then (if fits (j3 - 1) then (go (((data4.set i3.toNat e13).set j3.toNat e14), a4, (), (i3 + 1), (j3 - 1))) else none) else none))
 else none))
 else none))
 else none))
 else none)))) N (data3, a3, (), i2, j2)))))
 else none))
 else none)
 else
 (iter (fun go4 (g : (List ((List UInt8) × (List UInt8) × (List (Int × (List Int))))) × Int × Unit × Int × Int) =>
 match g with
 | (data5, a5, cmp5, i4, j4) =>
 (bif (decide (i4 ≤ j4)) then
 (if 0 ≤ a5 ∧ a5 < (data5.length : Int) then
 (Option.bind (data5[a5.toNat]?) fun e17 =>
 (if 0 ≤ j4 ∧ j4 < (data5.length : Int) then
 (Option.bind (data5[j4.toNat]?) fun e18 =>
 (Option.bind (i_SegOf_1_m N e17.1 e17.2.1 e17.2.2 e18.1 e18.2.1 e18.2.2) fun r3 =>
 (bif (decide (r3 < 0)) then
 (if fits (j4 - 1) then (go4 (data5, a5, (), i4, (j4 - 1))) else none)
 else
 (bif (decide (j4 < i4)) then
 (some (i4, data5))
 else
 (if 0 ≤ j4 ∧ j4 < (data5.length : Int) then
 (Option.bind (data5[j4.toNat]?) fun e19 =>
 (if 0 ≤ i4 ∧ i4 < (data5.length : Int) then
 (Option.bind (data5[i4.toNat]?) fun e20 =>
 (if 0 ≤ i4 ∧ i4 < (data5.length : Int) then
 (Option.bind (data5[i4.toNat]?) fun e21 =>
 (if 0 ≤ j4 ∧ j4 < ((data5.set i4.toNat e19).length : Int) then
 (Option.bind ((data5.set i4.toNat e19)[j4.toNat]?) fun e22 =>
 (if fits (i4 + 1) then (if fits (j4 - 1) then (go (((data5.set i4.toNat e19).set j4.toNat e20), a5, (), (i4 + 1), (j4 - 1))) else none) else none))
 else none))
 else none))
 else none))
 else none)))))
 else none))
 else none)
 else
 (bif (decide (j4 < i4)) then
 (some (i4, data5))
 else
 (if 0 ≤ j4 ∧ j4 < (data5.length : Int) then
 (Option.bind (data5[j4.toNat]?) fun e23 =>
 (if 0 ≤ i4 ∧ i4 < (data5.length : Int) then
 (Option.bind (data5[i4.toNat]?) fun e24 =>
 (if 0 ≤ i4 ∧ i4 < (data5.length : Int) then
 (Option.bind (data5[i4.toNat]?) fun e25 =>
 (if 0 ≤ j4 ∧ j4 < ((data5.set i4.toNat e23).length : Int) then
 (Option.bind ((data5.set i4.toNat e23)[j4.toNat]?) fun e26 =>
 (if fits (i4 + 1) then (if fits (j4 - 1) then (go (((data5.set i4.toNat e23).set j4.toNat e24), a5, (), (i4 + 1), (j4 - 1))) else none) else none))
 else none))
 else none))
 else none))
 else none)))) N (data3, a3, (), i2, j2)))) N (data2, a2, (), i, j))) N (((data.set a.toNat e).set pivot.toNat e2), a, (), (a + 1), (b - 1))) else none) else none))
 else none))
 else none))
 else none))
 else none)
def k_slices_partitionEqualCmpFunc_419_M (N : Nat) : Model := ⟨k_slices_partitionEqualCmpFunc_419_arg, k_slices_partitionEqualCmpFunc_419_ret, fun a => k_slices_partitionEqualCmpFunc_419_m N a.1 a.2.1 a.2.2.1 a.2.2.2.1 a.2.2.2.2⟩
set_option maxRecDepth 1000000 in
theorem k_slices_partitionEqualCmpFunc_419_ok (N : Nat) : ModelOk Tryz.prog 126 (k_slices_partitionEqualCmpFunc_419_M N) :=
  modelOk_of (E := mkEnv [(68, i_SegOf_1_M N)] [] [800000]) (mkEnv_ok (fnsOk_cons (i_SegOf_1_ok N) fnsOk_nil) _ _) Tryz.func126 (by kernel_rfl) rfl N k_slices_partitionEqualCmpFunc_419_h (k_slices_partitionEqualCmpFunc_419_M N) (by kernel_rfl) (by kernel_rfl) (fun a => by kernel_rfl)
/-! slices.partitionCmpFunc[loop.example/fossick/impl.Entry] -/
end Go.Proofs.YtcjbjmbialienaaGreat
