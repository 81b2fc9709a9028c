import Derived.Test.YtlhkdngkjodgiaaKTab
set_option linter.unusedVariables false
set_option linter.unusedSimpArgs false
namespace Go.Proofs.Ytlhkdngkjodgiaa
open Go.RowKit
/-! loop.example/fossick/spec.l30Open -/
def s_l30Open_arg : Sh := ⟨[.pv (.sl (.int .u8))], []⟩
def s_l30Open_ret : Sh := ⟨[.box 10 0], [(10, false, [.pv (.sl (.int .u8)), .pv (.int .i64)])]⟩
def s_l30Open_h : Hint := .no
def s_l30Open_m (N : Nat) (code : List Int) : Option ((List Int) × Int) :=
 (bif (decide ((2000 : Int) < (code.length : Int))) then
 (Option.bind (cut code 0 2000) fun (y : List Int) =>
 (some (y, 0)))
 else
 (some (code, 0)))
def s_l30Open_M (N : Nat) : Model := ⟨s_l30Open_arg, s_l30Open_ret, fun a => s_l30Open_m N a⟩
set_option maxRecDepth 1000000 in
theorem s_l30Open_ok (N : Nat) : ModelOk Try.prog 27 (s_l30Open_M N) :=
  modelOk_of (E := mkEnv [] [] []) (mkEnv_ok fnsOk_nil _ _) Try.func27 (by kernel_rfl) rfl N s_l30Open_h (s_l30Open_M N) (by kernel_rfl) (by kernel_rfl) (fun a => by kernel_rfl)
/-! (*loop.example/fossick/spec.l30Rd).pick -/
def s_l30Rd_pick_arg : Sh := ⟨[.box 900000 0, .pv (.int .i64)], [(900000, false, [.pv (.sl (.int .u8)), .pv (.int .i64)])]⟩
def s_l30Rd_pick_ret : Sh := ⟨[.pv (.int .i64)], [(900000, false, [.pv (.sl (.int .u8)), .pv (.int .i64)])]⟩
def s_l30Rd_pick_h : Hint := .no
def s_l30Rd_pick_m (N : Nat) (n : Int) (b : List Int) (b2 : Int) : Option (Int × (List Int) × Int) :=
 (if fits (b2 + 1) then (bif (decide (n < 1)) then
 (some (0, b, (b2 + 1)))
 else
 (bif (decide ((b.length : Int) = 0)) then
 (some (0, b, (b2 + 1)))
 else
 (if fits ((b2 + 1) - 1) then (bif (decide (((b2 + 1) - 1) < (b.length : Int))) then
 (Option.bind (idx b ((b2 + 1) - 1)) fun (e : Int) =>
 (if n ≠ 0 then
 (some (((IntKind.i64.wrap e).tmod n), b, (b2 + 1)))
 else none))
 else
 (if (b.length : Int) ≠ 0 then
 (Option.bind (idx b (((b2 + 1) - 1).tmod (b.length : Int))) fun (e2 : Int) =>
 (if fits ((IntKind.i64.wrap e2) * 131) then (if fits (((b2 + 1) - 1) * 7) then (if fits ((((b2 + 1) - 1) * 7) + 3) then (if (b.length : Int) ≠ 0 then
 (Option.bind (idx b (((((b2 + 1) - 1) * 7) + 3).tmod (b.length : Int))) fun (e3 : Int) =>
 (if fits ((IntKind.i64.wrap e3) * 1117) then (if fits (((IntKind.i64.wrap e2) * 131) + ((IntKind.i64.wrap e3) * 1117)) then (if fits (((b2 + 1) - 1) * 29) then (if fits ((((IntKind.i64.wrap e2) * 131) + ((IntKind.i64.wrap e3) * 1117)) + (((b2 + 1) - 1) * 29)) then (if (b.length : Int) ≠ 0 then
 (if fits (((b2 + 1) - 1).tdiv (b.length : Int)) then (if fits ((((b2 + 1) - 1).tdiv (b.length : Int)) * 53) then (if fits (((((IntKind.i64.wrap e2) * 131) + ((IntKind.i64.wrap e3) * 1117)) + (((b2 + 1) - 1) * 29)) + ((((b2 + 1) - 1).tdiv (b.length : Int)) * 53)) then (if 64 ≠ 0 then
 (if fits ((((((IntKind.i64.wrap e2) * 131) + ((IntKind.i64.wrap e3) * 1117)) + (((b2 + 1) - 1) * 29)) + ((((b2 + 1) - 1).tdiv (b.length : Int)) * 53)).tdiv 64) then (if n ≠ 0 then
 (some (((bitsI .xor .i64 (((((IntKind.i64.wrap e2) * 131) + ((IntKind.i64.wrap e3) * 1117)) + (((b2 + 1) - 1) * 29)) + ((((b2 + 1) - 1).tdiv (b.length : Int)) * 53)) ((((((IntKind.i64.wrap e2) * 131) + ((IntKind.i64.wrap e3) * 1117)) + (((b2 + 1) - 1) * 29)) + ((((b2 + 1) - 1).tdiv (b.length : Int)) * 53)).tdiv 64)).tmod n), b, (b2 + 1)))
 else none) else none)
 else none) else none) else none) else none)
 else none) else none) else none) else none) else none))
 else none) else none) else none) else none))
 else none)) else none))) else none)
def s_l30Rd_pick_M (N : Nat) : Model := ⟨s_l30Rd_pick_arg, s_l30Rd_pick_ret, fun a => s_l30Rd_pick_m N a.1 a.2.1 a.2.2⟩
set_option maxRecDepth 1000000 in
theorem s_l30Rd_pick_ok (N : Nat) : ModelOk Try.prog 45 (s_l30Rd_pick_M N) :=
  modelOk_of (E := mkEnv [] [] [900000]) (mkEnv_ok fnsOk_nil _ _) Try.func45 (by kernel_rfl) rfl N s_l30Rd_pick_h (s_l30Rd_pick_M N) (by kernel_rfl) (by kernel_rfl) (fun a => by kernel_rfl)
/-! (*loop.example/fossick/spec.l30Rd).one -/
def s_l30Rd_one_arg : Sh := ⟨[.box 900000 0, .pv (.sl (.int .i64))], [(900000, false, [.pv (.sl (.int .u8)), .pv (.int .i64)])]⟩
def s_l30Rd_one_ret : Sh := ⟨[.pv (.int .i64)], [(900000, false, [.pv (.sl (.int .u8)), .pv (.int .i64)])]⟩
def s_l30Rd_one_h : Hint := .no
def s_l30Rd_one_m (N : Nat) (list : List Int) (b : List Int) (b2 : Int) : Option (Int × (List Int) × Int) :=
 (Option.bind (s_l30Rd_pick_m N (list.length : Int) b b2) fun (r : Int × (List Int) × Int) =>
 (Option.bind (idx list r.1) fun (e : Int) =>
 (some (e, r.2.1, r.2.2))))
def s_l30Rd_one_M (N : Nat) : Model := ⟨s_l30Rd_one_arg, s_l30Rd_one_ret, fun a => s_l30Rd_one_m N a.1 a.2.1 a.2.2⟩
set_option maxRecDepth 1000000 in
theorem s_l30Rd_one_ok (N : Nat) : ModelOk Try.prog 46 (s_l30Rd_one_M N) :=
  modelOk_of (E := mkEnv [(45, s_l30Rd_pick_M N)] [] [900000]) (mkEnv_ok (fnsOk_cons (s_l30Rd_pick_ok N) fnsOk_nil) _ _) Try.func46 (by kernel_rfl) rfl N s_l30Rd_one_h (s_l30Rd_one_M N) (by kernel_rfl) (by kernel_rfl) (fun a => by kernel_rfl)
/-! loop.example/fossick/spec.l30Point -/
def s_l30Point_arg : Sh := ⟨[.box 900000 0, .pv (.int .i64)], [(900000, false, [.pv (.sl (.int .u8)), .pv (.int .i64)])]⟩
def s_l30Point_ret : Sh := ⟨[.agg [.pv (.int .i64), .pv (.int .i64), .pv (.int .i64)]], [(900000, false, [.pv (.sl (.int .u8)), .pv (.int .i64)])]⟩
def s_l30Point_h : Hint := .no
def s_l30Point_m (N : Nat) (id : Int) (b : List Int) (b2 : Int) : Option (Int × Int × Int × (List Int) × Int) :=
 (Option.bind (s_l30Rd_pick_m N 20 b b2) fun (r : Int × (List Int) × Int) =>
 (Option.bind (s_l30Rd_pick_m N 20 r.2.1 r.2.2) fun (r2 : Int × (List Int) × Int) =>
 (Option.bind (s_l30Rd_one_m N ([r.1, r2.1, 999, 0] : List Int) r2.2.1 r2.2.2) fun (r3 : Int × (List Int) × Int) =>
 (Option.bind (s_l30Rd_pick_m N 20 r3.2.1 r3.2.2) fun (r4 : Int × (List Int) × Int) =>
 (Option.bind (s_l30Rd_pick_m N 20 r4.2.1 r4.2.2) fun (r5 : Int × (List Int) × Int) =>
 (Option.bind (s_l30Rd_one_m N ([r4.1, r5.1, 999, 0] : List Int) r5.2.1 r5.2.2) fun (r6 : Int × (List Int) × Int) =>
 (some (id, r3.1, r6.1, r6.2.1, r6.2.2))))))))
def s_l30Point_M (N : Nat) : Model := ⟨s_l30Point_arg, s_l30Point_ret, fun a => s_l30Point_m N a.1 a.2.1 a.2.2⟩
set_option maxRecDepth 1000000 in
theorem s_l30Point_ok (N : Nat) : ModelOk Try.prog 61 (s_l30Point_M N) :=
  modelOk_of (E := mkEnv [(45, s_l30Rd_pick_M N), (46, s_l30Rd_one_M N)] [] [900000]) (mkEnv_ok (fnsOk_cons (s_l30Rd_pick_ok N) (fnsOk_cons (s_l30Rd_one_ok N) fnsOk_nil)) _ _) Try.func61 (by kernel_rfl) rfl N s_l30Point_h (s_l30Point_M N) (by kernel_rfl) (by kernel_rfl) (fun a => by kernel_rfl)
/-! loop.example/fossick/spec.l30PointsOf -/
def s_l30PointsOf_arg : Sh := ⟨[.box 900000 0], [(900000, false, [.pv (.sl (.int .u8)), .pv (.int .i64)])]⟩
def s_l30PointsOf_ret : Sh := ⟨[.own 1 (.pair (.int .i64) (.pair (.int .i64) (.int .i64))) 36 true], [(900000, false, [.pv (.sl (.int .u8)), .pv (.int .i64)])]⟩
def s_l30PointsOf_s1 : Sh := ⟨[.box 900000 0, .dead, .dead, .own 600003 (.pair (.int .i64) (.pair (.int .i64) (.int .i64))) 36 true, .pv (.int .i64), .pv (.int .i64), .dead, .dead, .dead, .dead, .dead, .dead, .dead, .dead, .dead, .dead, .dead, .dead, .dead, .dead, .dead, .dead, .dead, .dead, .dead, .dead], [(900000, false, [.pv (.sl (.int .u8)), .pv (.int .i64)])]⟩
def s_l30PointsOf_h : Hint := (.seq .no (.seq .no (.seq .no (.seq (.seq .no (.block (.loop s_l30PointsOf_s1 .no))) .no))))
def s_l30PointsOf_m (N : Nat) (b : List Int) (b2 : Int) : Option ((List (Int × Int × Int)) × (List Int) × Int) :=
 (Option.bind (s_l30Rd_one_m N ([0, 3, 8, 20] : List Int) b b2) fun (r : Int × (List Int) × Int) =>
 (iter (fun (go : ((List (Int × Int × Int)) × Int × Int × (List Int) × Int) → Option ((List (Int × Int × Int)) × (List Int) × Int)) (g : (List (Int × Int × Int)) × Int × Int × (List Int) × Int) =>
 match g with
 | (out, id, n, b3, b4) =>
 (bif (decide ((0 : Int) < n)) then
 (if fits (id + 1) then (Option.bind (s_l30Rd_pick_m N 3 b3 b4) fun (r2 : Int × (List Int) × Int) =>
 (if fits ((id + 1) + r2.1) then (Option.bind (s_l30Point_m N ((id + 1) + r2.1) r2.2.1 r2.2.2) fun (r3 : Int × Int × Int × (List Int) × Int) =>
 (if room out.length ([(r3.1, r3.2.1, r3.2.2.1)] : List (Int × Int × Int)).length 24 then
 (if fits (n - 1) then (go ((out ++ ([(r3.1, r3.2.1, r3.2.2.1)] : List (Int × Int × Int))), ((id + 1) + r2.1), (n - 1), r3.2.2.2.1, r3.2.2.2.2)) else none)
 else none)) else none)) else none)
 else
 (some (out, b3, b4)))) N (([] : List (Int × Int × Int)), 0, r.1, r.2.1, r.2.2)))
def s_l30PointsOf_M (N : Nat) : Model := ⟨s_l30PointsOf_arg, s_l30PointsOf_ret, fun a => s_l30PointsOf_m N a.1 a.2⟩
set_option maxRecDepth 1000000 in
theorem s_l30PointsOf_ok (N : Nat) : ModelOk Try.prog 44 (s_l30PointsOf_M N) :=
  modelOk_of (E := mkEnv [(46, s_l30Rd_one_M N), (45, s_l30Rd_pick_M N), (61, s_l30Point_M N)] [] [900000]) (mkEnv_ok (fnsOk_cons (s_l30Rd_one_ok N) (fnsOk_cons (s_l30Rd_pick_ok N) (fnsOk_cons (s_l30Point_ok N) fnsOk_nil))) _ _) Try.func44 (by kernel_rfl) rfl N s_l30PointsOf_h (s_l30PointsOf_M N) (by kernel_rfl) (by kernel_rfl) (fun a => by kernel_rfl)
/-! loop.example/fossick/spec.l15Less -/
def s_l15Less_arg : Sh := ⟨[.agg [.pv (.int .i64), .pv (.int .i64), .pv (.int .i64)], .agg [.pv (.int .i64), .pv (.int .i64), .pv (.int .i64)], .pv .bool], []⟩
def s_l15Less_ret : Sh := ⟨[.pv .bool], []⟩
def s_l15Less_h : Hint := .no
def s_l15Less_m (N : Nat) (a : Int) (a2 : Int) (a3 : Int) (b : Int) (b2 : Int) (b3 : Int) (byY : Bool) : Option (Bool) :=
 (bif byY then
 (bif (!decide (a3 = b3)) then
 (some (decide (a3 < b3)))
 else
 (bif (!decide (a2 = b2)) then
 (some (decide (a2 < b2)))
 else
 (bif (!decide (a3 = b3)) then
 (some (decide (a3 < b3)))
 else
 (some (decide (a < b))))))
 else
 (bif (!decide (a2 = b2)) then
 (some (decide (a2 < b2)))
 else
 (bif (!decide (a3 = b3)) then
 (some (decide (a3 < b3)))
 else
 (some (decide (a < b))))))
def s_l15Less_M (N : Nat) : Model := ⟨s_l15Less_arg, s_l15Less_ret, fun a => s_l15Less_m N a.1 a.2.1 a.2.2.1 a.2.2.2.1 a.2.2.2.2.1 a.2.2.2.2.2.1 a.2.2.2.2.2.2⟩
set_option maxRecDepth 1000000 in
theorem s_l15Less_ok (N : Nat) : ModelOk Try.prog 77 (s_l15Less_M N) :=
  modelOk_of (E := mkEnv [] [] []) (mkEnv_ok fnsOk_nil _ _) Try.func77 (by kernel_rfl) rfl N s_l15Less_h (s_l15Less_M N) (by kernel_rfl) (by kernel_rfl) (fun a => by kernel_rfl)
/-! loop.example/fossick/spec.l15Sort -/
def s_l15Sort_arg : Sh := ⟨[.pv (.sl (.pair (.int .i64) (.pair (.int .i64) (.int .i64)))), .pv .bool], []⟩
def s_l15Sort_ret : Sh := ⟨[.own 1 (.pair (.int .i64) (.pair (.int .i64) (.int .i64))) 36 true], []⟩
def s_l15Sort_s1 : Sh := ⟨[.pv (.sl (.pair (.int .i64) (.pair (.int .i64) (.int .i64)))), .pv .bool, .dead, .dead, .dead, .own 600005 (.pair (.int .i64) (.pair (.int .i64) (.int .i64))) 36 true, .pv (.int .i64), .dead, .dead, .dead, .dead, .dead, .dead, .dead, .dead, .dead, .dead, .dead, .dead, .dead, .dead, .dead, .dead, .dead, .dead, .dead, .dead, .dead, .dead, .dead, .dead, .dead, .dead, .dead, .dead, .dead, .dead, .dead, .dead, .dead, .dead, .dead, .dead, .dead, .dead, .dead, .dead, .dead, .dead, .dead, .dead, .dead], []⟩
def s_l15Sort_s2 : Sh := ⟨[.pv (.sl (.pair (.int .i64) (.pair (.int .i64) (.int .i64)))), .pv .bool, .dead, .dead, .dead, .own 600005 (.pair (.int .i64) (.pair (.int .i64) (.int .i64))) 36 true, .pv (.int .i64), .pv (.int .i64), .dead, .dead, .dead, .dead, .dead, .dead, .dead, .dead, .dead, .dead, .dead, .dead, .dead, .dead, .dead, .dead, .dead, .dead, .dead, .dead, .dead, .dead, .dead, .dead, .dead, .dead, .dead, .dead, .dead, .dead, .dead, .dead, .dead, .dead, .dead, .dead, .dead, .dead, .dead, .dead, .dead, .dead, .dead, .dead], []⟩
def s_l15Sort_h : Hint := (.seq .no (.seq .no (.seq (.seq .no (.block (.loop s_l15Sort_s1 (.seq .no (.seq (.block (.seq .no (.seq (.block (.loop s_l15Sort_s2 .no)) .no))) .no))))) .no)))
def s_l15Sort_m (N : Nat) (list : List (Int × Int × Int)) (byY : Bool) : Option ((List (Int × Int × Int))) :=
 (iter (fun (go : ((List (Int × Int × Int)) × Bool × (List (Int × Int × Int)) × Int) → Option ((List (Int × Int × Int)))) (g : (List (Int × Int × Int)) × Bool × (List (Int × Int × Int)) × Int) =>
 match g with
 | (list2, byY2, out, i) =>
 (bif (decide (i < (list2.length : Int))) then
 (iter (fun (go2 : ((List (Int × Int × Int)) × Bool × (List (Int × Int × Int)) × Int × Int) → Option ((List (Int × Int × Int)))) (g : (List (Int × Int × Int)) × Bool × (List (Int × Int × Int)) × Int × Int) =>
 match g with
 | (list3, byY3, out2, i2, k) =>
 (bif (decide (k < (out2.length : Int))) then
 (Option.bind (idx out2 k) fun (e : Int × Int × Int) =>
 (Option.bind (idx list3 i2) fun (e2 : Int × Int × Int) =>
 (Option.bind (s_l15Less_m N e.1 e.2.1 e.2.2 e2.1 e2.2.1 e2.2.2 byY3) fun (r : Bool) =>
 (bif r then
 (if fits (k + 1) then (go2 (list3, byY3, out2, i2, (k + 1))) else none)
 else
 (Option.bind (cut out2 0 k) fun (y : List (Int × Int × Int)) =>
 (if room ([] : List (Int × Int × Int)).length y.length 24 then
 (Option.bind (idx list3 i2) fun (e3 : Int × Int × Int) =>
 (if room (([] : List (Int × Int × Int)) ++ y).length ([e3] : List (Int × Int × Int)).length 24 then
 (Option.bind (cut out2 k (out2.length : Int)) fun (y2 : List (Int × Int × Int)) =>
 (if room ((([] : List (Int × Int × Int)) ++ y) ++ ([e3] : List (Int × Int × Int))).length y2.length 24 then
 (if fits (i2 + 1) then (go (list3, byY3, (((([] : List (Int × Int × Int)) ++ y) ++ ([e3] : List (Int × Int × Int))) ++ y2), (i2 + 1))) else none)
 else none))
 else none))
 else none))))))
 else
 (Option.bind (cut out2 0 k) fun (y3 : List (Int × Int × Int)) =>
 (if room ([] : List (Int × Int × Int)).length y3.length 24 then
 (Option.bind (idx list3 i2) fun (e4 : Int × Int × Int) =>
 (if room (([] : List (Int × Int × Int)) ++ y3).length ([e4] : List (Int × Int × Int)).length 24 then
 (Option.bind (cut out2 k (out2.length : Int)) fun (y4 : List (Int × Int × Int)) =>
 (if room ((([] : List (Int × Int × Int)) ++ y3) ++ ([e4] : List (Int × Int × Int))).length y4.length 24 then
 (if fits (i2 + 1) then (go (list3, byY3, (((([] : List (Int × Int × Int)) ++ y3) ++ ([e4] : List (Int × Int × Int))) ++ y4), (i2 + 1))) else none)
 else none))
 else none))
 else none)))) N (list2, byY2, out, i, 0))
 else
 (some out))) N (list, byY, ([] : List (Int × Int × Int)), 0))
def s_l15Sort_M (N : Nat) : Model := ⟨s_l15Sort_arg, s_l15Sort_ret, fun a => s_l15Sort_m N a.1 a.2⟩
set_option maxRecDepth 1000000 in
theorem s_l15Sort_ok (N : Nat) : ModelOk Try.prog 60 (s_l15Sort_M N) :=
  modelOk_of (E := mkEnv [(77, s_l15Less_M N)] [] []) (mkEnv_ok (fnsOk_cons (s_l15Less_ok N) fnsOk_nil) _ _) Try.func60 (by kernel_rfl) rfl N s_l15Sort_h (s_l15Sort_M N) (by kernel_rfl) (by kernel_rfl) (fun a => by kernel_rfl)
/-! loop.example/fossick/spec.l15Build -/
def s_l15Build_arg : Sh := ⟨[.pv (.sl (.pair (.int .i64) (.pair (.int .i64) (.int .i64)))), .pv .bool], []⟩
def s_l15Build_ret : Sh := ⟨[.mtk 1 (.pair (.pair (.int .i64) (.pair (.int .i64) (.int .i64))) (.pair (.int .i64) (.pair (.int .i64) (.pair (.int .i64) (.pair (.int .i64) (.int .i64)))))) 38 true], []⟩
def s_l15Build_s1 : Sh := ⟨[.own 600000 (.pair (.int .i64) (.pair (.int .i64) (.int .i64))) 36 true, .dead, .dead, .dead, .dead, .pv (.int .i64), .mtk 600006 (.pair (.pair (.int .i64) (.pair (.int .i64) (.int .i64))) (.pair (.int .i64) (.pair (.int .i64) (.pair (.int .i64) (.pair (.int .i64) (.int .i64)))))) 38 true, .mtk 600007 (.pair (.pair (.int .i64) (.pair (.int .i64) (.int .i64))) (.pair (.int .i64) (.pair (.int .i64) (.pair (.int .i64) (.pair (.int .i64) (.int .i64)))))) 38 true, .box 8 0, .pv (.int .i64), .dead, .dead, .dead, .dead, .dead, .dead, .dead, .dead, .dead, .dead, .dead, .dead, .dead, .dead, .dead, .dead, .dead, .dead, .dead, .dead, .dead, .dead, .dead, .dead, .dead, .dead, .dead, .dead, .dead, .dead, .dead, .dead, .dead, .dead, .dead, .dead, .dead, .dead, .dead, .dead, .dead, .dead, .dead, .dead, .dead, .dead, .dead, .dead, .dead, .dead, .dead, .dead, .dead, .dead, .dead, .dead, .dead, .dead, .dead, .dead, .dead, .dead, .dead, .dead, .dead, .dead, .dead, .dead, .dead, .dead, .dead, .dead, .dead, .dead, .dead, .dead, .dead, .dead, .dead, .dead, .dead, .dead, .dead, .dead, .dead, .dead, .dead, .dead, .dead, .dead, .dead, .dead, .dead, .dead, .dead, .dead, .dead, .dead, .dead, .dead, .dead, .dead, .dead, .dead, .dead, .dead, .dead, .dead, .dead, .dead, .dead, .dead, .dead, .dead, .dead, .dead], [(8, false, [.pv (.int .i64), .pv (.int .i64), .pv (.int .i64), .pv (.int .i64)])]⟩
def s_l15Build_s2 : Sh := ⟨[.own 600000 (.pair (.int .i64) (.pair (.int .i64) (.int .i64))) 36 true, .dead, .dead, .dead, .dead, .pv (.int .i64), .mtk 600006 (.pair (.pair (.int .i64) (.pair (.int .i64) (.int .i64))) (.pair (.int .i64) (.pair (.int .i64) (.pair (.int .i64) (.pair (.int .i64) (.int .i64)))))) 38 true, .mtk 600007 (.pair (.pair (.int .i64) (.pair (.int .i64) (.int .i64))) (.pair (.int .i64) (.pair (.int .i64) (.pair (.int .i64) (.pair (.int .i64) (.int .i64)))))) 38 true, .box 8 0, .pv (.int .i64), .dead, .dead, .dead, .dead, .dead, .dead, .dead, .dead, .dead, .dead, .dead, .dead, .dead, .dead, .dead, .dead, .dead, .dead, .dead, .dead, .dead, .dead, .dead, .dead, .dead, .dead, .dead, .dead, .dead, .dead, .dead, .dead, .dead, .dead, .dead, .dead, .dead, .dead, .dead, .dead, .dead, .dead, .dead, .dead, .dead, .dead, .dead, .dead, .dead, .dead, .dead, .dead, .dead, .dead, .dead, .dead, .dead, .dead, .dead, .dead, .dead, .dead, .dead, .dead, .dead, .dead, .dead, .dead, .dead, .dead, .dead, .dead, .dead, .dead, .dead, .dead, .dead, .dead, .dead, .dead, .dead, .dead, .dead, .dead, .dead, .dead, .dead, .dead, .dead, .dead, .dead, .dead, .dead, .dead, .dead, .dead, .dead, .dead, .dead, .dead, .dead, .dead, .dead, .dead, .dead, .dead, .dead, .dead, .dead, .dead, .dead, .dead, .dead, .dead, .dead, .dead], [(8, false, [.pv (.int .i64), .pv (.int .i64), .pv (.int .i64), .pv (.int .i64)])]⟩
def s_l15Build_s3 : Sh := ⟨[.own 600000 (.pair (.int .i64) (.pair (.int .i64) (.int .i64))) 36 true, .dead, .dead, .dead, .dead, .pv (.int .i64), .mtk 600006 (.pair (.pair (.int .i64) (.pair (.int .i64) (.int .i64))) (.pair (.int .i64) (.pair (.int .i64) (.pair (.int .i64) (.pair (.int .i64) (.int .i64)))))) 38 true, .mtk 600007 (.pair (.pair (.int .i64) (.pair (.int .i64) (.int .i64))) (.pair (.int .i64) (.pair (.int .i64) (.pair (.int .i64) (.pair (.int .i64) (.int .i64)))))) 38 true, .box 8 0, .pv (.int .i64), .dead, .dead, .dead, .dead, .dead, .dead, .dead, .dead, .dead, .dead, .dead, .dead, .dead, .dead, .dead, .dead, .dead, .dead, .dead, .dead, .dead, .dead, .dead, .dead, .dead, .dead, .dead, .dead, .dead, .dead, .dead, .dead, .dead, .dead, .dead, .dead, .dead, .dead, .dead, .dead, .dead, .dead, .dead, .dead, .dead, .dead, .dead, .dead, .dead, .dead, .dead, .dead, .dead, .dead, .dead, .dead, .dead, .dead, .dead, .dead, .dead, .dead, .dead, .dead, .dead, .dead, .dead, .dead, .dead, .dead, .dead, .dead, .dead, .dead, .dead, .dead, .dead, .dead, .dead, .dead, .dead, .dead, .dead, .dead, .dead, .dead, .dead, .dead, .dead, .dead, .dead, .dead, .dead, .dead, .dead, .dead, .dead, .dead, .dead, .dead, .dead, .dead, .dead, .dead, .dead, .dead, .dead, .dead, .dead, .dead, .dead, .dead, .dead, .dead, .dead, .dead], [(8, false, [.pv (.int .i64), .pv (.int .i64), .pv (.int .i64), .pv (.int .i64)])]⟩
def s_l15Build_s4 : Sh := ⟨[.own 600000 (.pair (.int .i64) (.pair (.int .i64) (.int .i64))) 36 true, .dead, .dead, .dead, .dead, .pv (.int .i64), .mtk 600006 (.pair (.pair (.int .i64) (.pair (.int .i64) (.int .i64))) (.pair (.int .i64) (.pair (.int .i64) (.pair (.int .i64) (.pair (.int .i64) (.int .i64)))))) 38 true, .mtk 600007 (.pair (.pair (.int .i64) (.pair (.int .i64) (.int .i64))) (.pair (.int .i64) (.pair (.int .i64) (.pair (.int .i64) (.pair (.int .i64) (.int .i64)))))) 38 true, .box 8 0, .pv (.int .i64), .dead, .dead, .dead, .dead, .dead, .dead, .dead, .dead, .dead, .dead, .dead, .dead, .dead, .dead, .dead, .dead, .dead, .dead, .dead, .dead, .dead, .dead, .dead, .dead, .dead, .dead, .dead, .dead, .dead, .dead, .dead, .dead, .dead, .dead, .dead, .dead, .dead, .dead, .dead, .dead, .dead, .dead, .dead, .dead, .dead, .dead, .dead, .dead, .dead, .dead, .dead, .dead, .dead, .dead, .dead, .dead, .dead, .dead, .dead, .dead, .dead, .dead, .dead, .dead, .dead, .dead, .dead, .dead, .dead, .dead, .dead, .dead, .dead, .dead, .dead, .dead, .dead, .dead, .dead, .dead, .dead, .dead, .dead, .dead, .dead, .dead, .dead, .dead, .dead, .dead, .dead, .dead, .dead, .dead, .dead, .dead, .dead, .dead, .dead, .dead, .dead, .dead, .dead, .dead, .dead, .dead, .dead, .dead, .dead, .dead, .dead, .dead, .dead, .dead, .dead, .dead], [(8, false, [.pv (.int .i64), .pv (.int .i64), .pv (.int .i64), .pv (.int .i64)])]⟩
def s_l15Build_s5 : Sh := ⟨[.own 17001 (.pair (.int .i64) (.pair (.int .i64) (.int .i64))) 36 true, .dead, .dead, .dead, .dead, .pv (.int .i64), .mtk 26001 (.pair (.pair (.int .i64) (.pair (.int .i64) (.int .i64))) (.pair (.int .i64) (.pair (.int .i64) (.pair (.int .i64) (.pair (.int .i64) (.int .i64)))))) 38 true, .mtk 33001 (.pair (.pair (.int .i64) (.pair (.int .i64) (.int .i64))) (.pair (.int .i64) (.pair (.int .i64) (.pair (.int .i64) (.pair (.int .i64) (.int .i64)))))) 38 true, .dead, .dead, .dead, .dead, .dead, .dead, .dead, .dead, .dead, .dead, .dead, .dead, .dead, .dead, .dead, .dead, .dead, .dead, .dead, .dead, .dead, .dead, .dead, .dead, .dead, .dead, .dead, .dead, .dead, .dead, .dead, .dead, .dead, .dead, .dead, .dead, .dead, .dead, .dead, .dead, .dead, .dead, .dead, .dead, .dead, .dead, .dead, .dead, .dead, .dead, .dead, .dead, .dead, .dead, .dead, .dead, .dead, .dead, .dead, .dead, .dead, .dead, .dead, .dead, .dead, .dead, .dead, .dead, .dead, .dead, .dead, .dead, .dead, .dead, .dead, .dead, .dead, .dead, .dead, .dead, .dead, .dead, .dead, .dead, .dead, .dead, .dead, .dead, .dead, .dead, .dead, .dead, .dead, .dead, .dead, .dead, .dead, .dead, .dead, .dead, .dead, .dead, .dead, .dead, .dead, .dead, .dead, .dead, .dead, .dead, .dead, .dead, .dead, .dead, .dead, .dead, .dead, .dead], []⟩
def s_l15Build_s6 : Sh := ⟨[.own 17001 (.pair (.int .i64) (.pair (.int .i64) (.int .i64))) 36 true, .pv .bool, .dead, .dead, .dead, .pv (.int .i64), .mtk 26001 (.pair (.pair (.int .i64) (.pair (.int .i64) (.int .i64))) (.pair (.int .i64) (.pair (.int .i64) (.pair (.int .i64) (.pair (.int .i64) (.int .i64)))))) 38 true, .dead, .dead, .dead, .dead, .dead, .dead, .dead, .dead, .dead, .dead, .dead, .dead, .dead, .dead, .dead, .dead, .dead, .dead, .dead, .dead, .dead, .dead, .dead, .dead, .dead, .dead, .dead, .dead, .dead, .dead, .dead, .dead, .dead, .dead, .dead, .dead, .dead, .dead, .dead, .dead, .dead, .dead, .dead, .dead, .dead, .dead, .dead, .dead, .dead, .dead, .dead, .dead, .dead, .dead, .dead, .dead, .dead, .dead, .dead, .dead, .dead, .dead, .dead, .dead, .dead, .dead, .dead, .dead, .dead, .dead, .dead, .dead, .dead, .dead, .dead, .dead, .dead, .dead, .dead, .dead, .dead, .dead, .dead, .dead, .dead, .dead, .dead, .dead, .dead, .dead, .dead, .dead, .dead, .dead, .dead, .dead, .dead, .dead, .dead, .dead, .dead, .dead, .dead, .dead, .dead, .dead, .dead, .dead, .dead, .dead, .dead, .dead, .dead, .dead, .dead, .dead, .dead, .dead, .dead], []⟩
def s_l15Build_s7 : Sh := ⟨[.own 17001 (.pair (.int .i64) (.pair (.int .i64) (.int .i64))) 36 true, .pv .bool, .dead, .dead, .dead, .dead, .dead, .dead, .dead, .dead, .dead, .dead, .dead, .dead, .dead, .dead, .dead, .dead, .dead, .dead, .dead, .dead, .dead, .dead, .dead, .dead, .dead, .dead, .dead, .dead, .dead, .dead, .dead, .dead, .dead, .dead, .dead, .dead, .dead, .dead, .dead, .dead, .dead, .dead, .dead, .dead, .dead, .dead, .dead, .dead, .dead, .dead, .dead, .dead, .dead, .dead, .dead, .dead, .dead, .dead, .dead, .dead, .dead, .dead, .dead, .dead, .dead, .dead, .dead, .dead, .dead, .dead, .dead, .dead, .dead, .dead, .dead, .dead, .dead, .dead, .dead, .dead, .dead, .dead, .dead, .dead, .dead, .dead, .dead, .dead, .dead, .dead, .dead, .dead, .dead, .dead, .dead, .dead, .dead, .dead, .dead, .dead, .dead, .dead, .dead, .dead, .dead, .dead, .dead, .dead, .dead, .dead, .dead, .dead, .dead, .dead, .dead, .dead, .dead, .dead, .dead, .dead, .dead, .dead, .dead, .dead], []⟩
def s_l15Build_h : Hint := (.seq .no (.seq .no (.meet s_l15Build_s7 .no (.seq .no (.meet s_l15Build_s6 .no (.meet s_l15Build_s5 .no (.seq .no (.seq (.seq .no (.block (.loop s_l15Build_s1 (.seq .no (.seq (.block (.meet s_l15Build_s4 .no (.meet s_l15Build_s3 .no (.meet s_l15Build_s2 .no .no)))) .no))))) .no))))))))
def s_l15Build_m (N : Nat) : (D : Nat) → (List (Int × Int × Int)) → Bool → Option ((List ((Int × Int × Int) × Int × Int × Int × Int × Int)))
 | 0, _, _ => none
 | D + 1, list, byY =>
 (bif (decide ((list.length : Int) = 0)) then
 (some ([] : List ((Int × Int × Int) × Int × Int × Int × Int × Int)))
 else
 (meet (fun (g : (List (Int × Int × Int)) × Bool) =>
 match g with
 | (list2, byY2) =>
 (if 2 ≠ 0 then
 (if fits ((list2.length : Int).tdiv 2) then (meet (fun (g : (List (Int × Int × Int)) × Bool × Int × (List ((Int × Int × Int) × Int × Int × Int × Int × Int))) =>
 match g with
 | (list3, byY3, k, left) =>
 (meet (fun (g : (List (Int × Int × Int)) × Int × (List ((Int × Int × Int) × Int × Int × Int × Int × Int)) × (List ((Int × Int × Int) × Int × Int × Int × Int × Int))) =>
 match g with
 | (list4, k2, left2, right) =>
 (Option.bind (idx list4 0) fun (e : Int × Int × Int) =>
 (Option.bind (idx list4 0) fun (e2 : Int × Int × Int) =>
 (Option.bind (idx list4 0) fun (e3 : Int × Int × Int) =>
 (Option.bind (idx list4 0) fun (e4 : Int × Int × Int) =>
 (iter (fun (go : ((List (Int × Int × Int)) × Int × (List ((Int × Int × Int) × Int × Int × Int × Int × Int)) × (List ((Int × Int × Int) × Int × Int × Int × Int × Int)) × Int × Int × Int × Int × Int) → Option ((List ((Int × Int × Int) × Int × Int × Int × Int × Int)))) (g : (List (Int × Int × Int)) × Int × (List ((Int × Int × Int) × Int × Int × Int × Int × Int)) × (List ((Int × Int × Int) × Int × Int × Int × Int × Int)) × Int × Int × Int × Int × Int) =>
 match g with
 | (list5, k3, left3, right2, i, b, b2, b3, b4) =>
 (bif (decide (i < (list5.length : Int))) then
 (meet (fun (g : (List (Int × Int × Int)) × Int × (List ((Int × Int × Int) × Int × Int × Int × Int × Int)) × (List ((Int × Int × Int) × Int × Int × Int × Int × Int)) × Int × Int × Int × Int × Int) =>
 match g with
 | (list6, k4, left4, right3, i2, b5, b6, b7, b8) =>
 (meet (fun (g : (List (Int × Int × Int)) × Int × (List ((Int × Int × Int) × Int × Int × Int × Int × Int)) × (List ((Int × Int × Int) × Int × Int × Int × Int × Int)) × Int × Int × Int × Int × Int) =>
 match g with
 | (list7, k5, left5, right4, i3, b9, b10, b11, b12) =>
 (meet (fun (g : (List (Int × Int × Int)) × Int × (List ((Int × Int × Int) × Int × Int × Int × Int × Int)) × (List ((Int × Int × Int) × Int × Int × Int × Int × Int)) × Int × Int × Int × Int × Int) =>
 match g with
 | (list8, k6, left6, right5, i4, b13, b14, b15, b16) =>
 (Option.bind (idx list8 i4) fun (e11 : Int × Int × Int) =>
 (bif (decide (b16 < e11.2.2)) then
 (Option.bind (idx list8 i4) fun (e12 : Int × Int × Int) =>
 (if fits (i4 + 1) then (go (list8, k6, left6, right5, (i4 + 1), b13, b14, b15, e12.2.2)) else none))
 else
 (if fits (i4 + 1) then (go (list8, k6, left6, right5, (i4 + 1), b13, b14, b15, b16)) else none)))) fun (J6 : ((List (Int × Int × Int)) × Int × (List ((Int × Int × Int) × Int × Int × Int × Int × Int)) × (List ((Int × Int × Int) × Int × Int × Int × Int × Int)) × Int × Int × Int × Int × Int) → Option ((List ((Int × Int × Int) × Int × Int × Int × Int × Int)))) =>
 (Option.bind (idx list7 i3) fun (e9 : Int × Int × Int) =>
 (bif (decide (e9.2.2 < b11)) then
 (Option.bind (idx list7 i3) fun (e10 : Int × Int × Int) =>
 (J6 (list7, k5, left5, right4, i3, b9, b10, e10.2.2, b12)))
 else
 (J6 (list7, k5, left5, right4, i3, b9, b10, b11, b12)))))) fun (J5 : ((List (Int × Int × Int)) × Int × (List ((Int × Int × Int) × Int × Int × Int × Int × Int)) × (List ((Int × Int × Int) × Int × Int × Int × Int × Int)) × Int × Int × Int × Int × Int) → Option ((List ((Int × Int × Int) × Int × Int × Int × Int × Int)))) =>
 (Option.bind (idx list6 i2) fun (e7 : Int × Int × Int) =>
 (bif (decide (b6 < e7.2.1)) then
 (Option.bind (idx list6 i2) fun (e8 : Int × Int × Int) =>
 (J5 (list6, k4, left4, right3, i2, b5, e8.2.1, b7, b8)))
 else
 (J5 (list6, k4, left4, right3, i2, b5, b6, b7, b8)))))) fun (J4 : ((List (Int × Int × Int)) × Int × (List ((Int × Int × Int) × Int × Int × Int × Int × Int)) × (List ((Int × Int × Int) × Int × Int × Int × Int × Int)) × Int × Int × Int × Int × Int) → Option ((List ((Int × Int × Int) × Int × Int × Int × Int × Int)))) =>
 (Option.bind (idx list5 i) fun (e5 : Int × Int × Int) =>
 (bif (decide (e5.2.1 < b)) then
 (Option.bind (idx list5 i) fun (e6 : Int × Int × Int) =>
 (J4 (list5, k3, left3, right2, i, e6.2.1, b2, b3, b4)))
 else
 (J4 (list5, k3, left3, right2, i, b, b2, b3, b4)))))
 else
 (Option.bind (idx list5 k3) fun (e13 : Int × Int × Int) =>
 (if room ([(e13, (left3.length : Int), b, b2, b3, b4)] : List ((Int × Int × Int) × Int × Int × Int × Int × Int)).length left3.length 64 then
 (if room (([(e13, (left3.length : Int), b, b2, b3, b4)] : List ((Int × Int × Int) × Int × Int × Int × Int × Int)) ++ left3).length right2.length 64 then
 (some ((([(e13, (left3.length : Int), b, b2, b3, b4)] : List ((Int × Int × Int) × Int × Int × Int × Int × Int)) ++ left3) ++ right2))
 else none)
 else none)))) N (list4, k2, left2, right, 0, e.2.1, e2.2.1, e3.2.2, e4.2.2))))))) fun (J3 : ((List (Int × Int × Int)) × Int × (List ((Int × Int × Int) × Int × Int × Int × Int × Int)) × (List ((Int × Int × Int) × Int × Int × Int × Int × Int))) → Option ((List ((Int × Int × Int) × Int × Int × Int × Int × Int)))) =>
 (if fits (k + 1) then (Option.bind (cut list3 (k + 1) (list3.length : Int)) fun (y2 : List (Int × Int × Int)) =>
 (Option.bind (s_l15Build_m N D y2 (!byY3)) fun (r3 : (List ((Int × Int × Int) × Int × Int × Int × Int × Int))) =>
 (J3 (list3, k, left, r3)))) else none))) fun (J2 : ((List (Int × Int × Int)) × Bool × Int × (List ((Int × Int × Int) × Int × Int × Int × Int × Int))) → Option ((List ((Int × Int × Int) × Int × Int × Int × Int × Int)))) =>
 (Option.bind (cut list2 0 ((list2.length : Int).tdiv 2)) fun (y : List (Int × Int × Int)) =>
 (Option.bind (s_l15Build_m N D y (!byY2)) fun (r2 : (List ((Int × Int × Int) × Int × Int × Int × Int × Int))) =>
 (J2 (list2, byY2, ((list2.length : Int).tdiv 2), r2))))) else none)
 else none)) fun (J : ((List (Int × Int × Int)) × Bool) → Option ((List ((Int × Int × Int) × Int × Int × Int × Int × Int)))) =>
 (Option.bind (s_l15Sort_m N list byY) fun (r : (List (Int × Int × Int))) =>
 (J (r, byY)))))
def s_l15Build_M (N D : Nat) : Model := ⟨s_l15Build_arg, s_l15Build_ret, fun a => s_l15Build_m N D a.1 a.2⟩
set_option maxRecDepth 1000000 in
theorem s_l15Build_step (N D : Nat) (ih : ModelOk Try.prog 43 (s_l15Build_M N D)) : ModelOk Try.prog 43 (s_l15Build_M N (D + 1)) :=
  modelOk_of (E := mkEnv [(43, s_l15Build_M N D), (60, s_l15Sort_M N)] [120, 122, 125] []) (mkEnv_ok (fnsOk_cons ih (fnsOk_cons (s_l15Sort_ok N) fnsOk_nil)) _ _) Try.func43 (by kernel_rfl) rfl N s_l15Build_h (s_l15Build_M N (D + 1)) (by kernel_rfl) (by kernel_rfl) (fun a => by kernel_rfl)
theorem s_l15Build_ok (N : Nat) : ∀ D, ModelOk Try.prog 43 (s_l15Build_M N D)
  | 0 => modelOk_none ⟨_, Try.func43, by decide, by kernel_rfl⟩ _ (fun a => rfl)
  | D + 1 => s_l15Build_step N D (s_l15Build_ok N D)
/-! loop.example/fossick/spec.l30Knots -/
def s_l30Knots_arg : Sh := ⟨[.box 900000 0], [(900000, false, [.pv (.sl (.int .u8)), .pv (.int .i64)])]⟩
def s_l30Knots_ret : Sh := ⟨[.own 1 (.pair (.pair (.int .i64) (.pair (.int .i64) (.int .i64))) (.pair (.int .i64) (.pair (.int .i64) (.pair (.int .i64) (.pair (.int .i64) (.int .i64)))))) 38 true], [(900000, false, [.pv (.sl (.int .u8)), .pv (.int .i64)])]⟩
def s_l30Knots_h : Hint := .no
def s_l30Knots_m (N : Nat) (b : List Int) (b2 : Int) : Option ((List ((Int × Int × Int) × Int × Int × Int × Int × Int)) × (List Int) × Int) :=
 (Option.bind (s_l30PointsOf_m N b b2) fun (r : (List (Int × Int × Int)) × (List Int) × Int) =>
 (Option.bind (s_l15Build_m N N r.1 false) fun (r2 : (List ((Int × Int × Int) × Int × Int × Int × Int × Int))) =>
 (bif (decide ((0 : Int) < (r2.length : Int))) then
 (Option.bind (s_l30Rd_pick_m N 10 r.2.1 r.2.2) fun (r3 : Int × (List Int) × Int) =>
 (bif (decide (r3.1 = 0)) then
 (Option.bind (s_l30Rd_pick_m N (r2.length : Int) r3.2.1 r3.2.2) fun (r4 : Int × (List Int) × Int) =>
 (Option.bind (s_l30Rd_pick_m N 3 r4.2.1 r4.2.2) fun (r5 : Int × (List Int) × Int) =>
 (bif (decide (r5.1 = 0)) then
 (Option.bind (s_l30Rd_one_m N ([(-1), 0, 9] : List Int) r5.2.1 r5.2.2) fun (r6 : Int × (List Int) × Int) =>
 (if 0 ≤ r4.1 ∧ r4.1 < (r2.length : Int) then
 (Option.bind (r2[r4.1.toNat]?) fun (e : (Int × Int × Int) × Int × Int × Int × Int × Int) =>
 (some ((r2.set r4.1.toNat (e.1, r6.1, e.2.2)), r6.2.1, r6.2.2)))
 else none))
 else
 (bif (decide (r5.1 = 1)) then
 (if 0 ≤ r4.1 ∧ r4.1 < (r2.length : Int) then
 (Option.bind (r2[r4.1.toNat]?) fun (e2 : (Int × Int × Int) × Int × Int × Int × Int × Int) =>
 (if fits (e2.2.2.2.1 + 1) then (if 0 ≤ r4.1 ∧ r4.1 < (r2.length : Int) then
 (Option.bind (r2[r4.1.toNat]?) fun (e3 : (Int × Int × Int) × Int × Int × Int × Int × Int) =>
 (some ((r2.set r4.1.toNat (e3.1, e3.2.1, e3.2.2.1, (e2.2.2.2.1 + 1), e3.2.2.2.2)), r5.2.1, r5.2.2)))
 else none) else none))
 else none)
 else
 (if 0 ≤ r4.1 ∧ r4.1 < (r2.length : Int) then
 (Option.bind (r2[r4.1.toNat]?) fun (e4 : (Int × Int × Int) × Int × Int × Int × Int × Int) =>
 (if fits (e4.1.2.1 + 1) then (if 0 ≤ r4.1 ∧ r4.1 < (r2.length : Int) then
 (Option.bind (r2[r4.1.toNat]?) fun (e5 : (Int × Int × Int) × Int × Int × Int × Int × Int) =>
 (some ((r2.set r4.1.toNat ((e5.1.1, (e4.1.2.1 + 1), e5.1.2.2), e5.2)), r5.2.1, r5.2.2)))
 else none) else none))
 else none)))))
 else
 (some (r2, r3.2.1, r3.2.2))))
 else
 (some (r2, r.2.1, r.2.2)))))
def s_l30Knots_M (N : Nat) : Model := ⟨s_l30Knots_arg, s_l30Knots_ret, fun a => s_l30Knots_m N a.1 a.2⟩
set_option maxRecDepth 1000000 in
theorem s_l30Knots_ok (N : Nat) : ModelOk Try.prog 28 (s_l30Knots_M N) :=
  modelOk_of (E := mkEnv [(44, s_l30PointsOf_M N), (43, s_l15Build_M N N), (45, s_l30Rd_pick_M N), (46, s_l30Rd_one_M N)] [39] [900000]) (mkEnv_ok (fnsOk_cons (s_l30PointsOf_ok N) (fnsOk_cons (s_l15Build_ok N N) (fnsOk_cons (s_l30Rd_pick_ok N) (fnsOk_cons (s_l30Rd_one_ok N) fnsOk_nil)))) _ _) Try.func28 (by kernel_rfl) rfl N s_l30Knots_h (s_l30Knots_M N) (by kernel_rfl) (by kernel_rfl) (fun a => by kernel_rfl)
/-! loop.example/fossick/spec.l30Box -/
def s_l30Box_arg : Sh := ⟨[.box 900000 0], [(900000, false, [.pv (.sl (.int .u8)), .pv (.int .i64)])]⟩
def s_l30Box_ret : Sh := ⟨[.agg [.pv (.int .i64), .pv (.int .i64), .pv (.int .i64), .pv (.int .i64)]], [(900000, false, [.pv (.sl (.int .u8)), .pv (.int .i64)])]⟩
def s_l30Box_h : Hint := .no
def s_l30Box_m (N : Nat) (b : List Int) (b2 : Int) : Option (Int × Int × Int × Int × (List Int) × Int) :=
 (Option.bind (s_l30Rd_pick_m N 20 b b2) fun (r : Int × (List Int) × Int) =>
 (Option.bind (s_l30Rd_pick_m N 20 r.2.1 r.2.2) fun (r2 : Int × (List Int) × Int) =>
 (Option.bind (s_l30Rd_pick_m N 12 r2.2.1 r2.2.2) fun (r3 : Int × (List Int) × Int) =>
 (if fits (r.1 + r3.1) then (Option.bind (s_l30Rd_pick_m N 12 r3.2.1 r3.2.2) fun (r4 : Int × (List Int) × Int) =>
 (if fits (r2.1 + r4.1) then (Option.bind (s_l30Rd_pick_m N 12 r4.2.1 r4.2.2) fun (r5 : Int × (List Int) × Int) =>
 (bif (decide (r5.1 = 0)) then
 (if fits (r.1 - 1) then (some (r.1, (r.1 - 1), r2.1, (r2.1 + r4.1), r5.2.1, r5.2.2)) else none)
 else
 (bif (decide (r5.1 = 1)) then
 (some (r.1, (r.1 + r3.1), r2.1, 1000, r5.2.1, r5.2.2))
 else
 (bif (decide (r5.1 = 2)) then
 (some (0, 999, 0, 999, r5.2.1, r5.2.2))
 else
 (some (r.1, (r.1 + r3.1), r2.1, (r2.1 + r4.1), r5.2.1, r5.2.2)))))) else none)) else none))))
def s_l30Box_M (N : Nat) : Model := ⟨s_l30Box_arg, s_l30Box_ret, fun a => s_l30Box_m N a.1 a.2⟩
set_option maxRecDepth 1000000 in
theorem s_l30Box_ok (N : Nat) : ModelOk Try.prog 29 (s_l30Box_M N) :=
  modelOk_of (E := mkEnv [(45, s_l30Rd_pick_M N)] [] [900000]) (mkEnv_ok (fnsOk_cons (s_l30Rd_pick_ok N) fnsOk_nil) _ _) Try.func29 (by kernel_rfl) rfl N s_l30Box_h (s_l30Box_M N) (by kernel_rfl) (by kernel_rfl) (fun a => by kernel_rfl)
/-! loop.example/fossick/spec.DrawKnotsFind -/
def s_DrawKnotsFind_arg : Sh := ⟨[.pv (.sl (.int .u8))], []⟩
def s_DrawKnotsFind_ret : Sh := ⟨[.tup [.own 1 (.pair (.pair (.int .i64) (.pair (.int .i64) (.int .i64))) (.pair (.int .i64) (.pair (.int .i64) (.pair (.int .i64) (.pair (.int .i64) (.int .i64)))))) 38 true, .agg [.pv (.int .i64), .pv (.int .i64), .pv (.int .i64), .pv (.int .i64)]]], []⟩
def s_DrawKnotsFind_h : Hint := .no
def s_DrawKnotsFind_m (N : Nat) (code : List Int) : Option ((List ((Int × Int × Int) × Int × Int × Int × Int × Int)) × Int × Int × Int × Int) :=
 (Option.bind (s_l30Open_m N code) fun (r : (List Int) × Int) =>
 (Option.bind (s_l30Knots_m N r.1 r.2) fun (r2 : (List ((Int × Int × Int) × Int × Int × Int × Int × Int)) × (List Int) × Int) =>
 (Option.bind (s_l30Box_m N r2.2.1 r2.2.2) fun (r3 : Int × Int × Int × Int × (List Int) × Int) =>
 (some (r2.1, r3.1, r3.2.1, r3.2.2.1, r3.2.2.2.1)))))
def s_DrawKnotsFind_M (N : Nat) : Model := ⟨s_DrawKnotsFind_arg, s_DrawKnotsFind_ret, fun a => s_DrawKnotsFind_m N a⟩
set_option maxRecDepth 1000000 in
theorem s_DrawKnotsFind_ok (N : Nat) : ModelOk Try.prog 6 (s_DrawKnotsFind_M N) :=
  modelOk_of (E := mkEnv [(27, s_l30Open_M N), (28, s_l30Knots_M N), (29, s_l30Box_M N)] [] []) (mkEnv_ok (fnsOk_cons (s_l30Open_ok N) (fnsOk_cons (s_l30Knots_ok N) (fnsOk_cons (s_l30Box_ok N) fnsOk_nil))) _ _) Try.func6 (by kernel_rfl) rfl N s_DrawKnotsFind_h (s_DrawKnotsFind_M N) (by kernel_rfl) (by kernel_rfl) (fun a => by kernel_rfl)
/-! loop.example/fossick/impl.pointsIn -/
def i_pointsIn_arg : Sh := ⟨[.pv (.sl (.pair (.pair (.int .i64) (.pair (.int .i64) (.int .i64))) (.pair (.int .i64) (.pair (.int .i64) (.pair (.int .i64) (.pair (.int .i64) (.int .i64)))))))], []⟩
def i_pointsIn_ret : Sh := ⟨[.own 1 (.pair (.int .i64) (.pair (.int .i64) (.int .i64))) 36 true], []⟩
def i_pointsIn_s1 : Sh := ⟨[.dead, .dead, .dead, .own 600003 (.pair (.int .i64) (.pair (.int .i64) (.int .i64))) 36 true, .dead, .dead, .dead, .pv (.sl (.pair (.pair (.int .i64) (.pair (.int .i64) (.int .i64))) (.pair (.int .i64) (.pair (.int .i64) (.pair (.int .i64) (.pair (.int .i64) (.int .i64))))))), .pv (.int .i64), .pv (.int .i64), .dead, .dead, .dead, .dead, .dead, .dead, .dead, .dead, .dead, .dead], []⟩
def i_pointsIn_h : Hint := (.seq .no (.seq .no (.seq (.seq .no (.block (.loop i_pointsIn_s1 .no))) .no)))
def i_pointsIn_m (N : Nat) (x : List ((Int × Int × Int) × Int × Int × Int × Int × Int)) : Option ((List (Int × Int × Int))) :=
 (iter (fun (go : ((List (Int × Int × Int)) × (List ((Int × Int × Int) × Int × Int × Int × Int × Int)) × Int × Int) → Option ((List (Int × Int × Int)))) (g : (List (Int × Int × Int)) × (List ((Int × Int × Int) × Int × Int × Int × Int × Int)) × Int × Int) =>
 match g with
 | (out, t7, t8, t9) =>
 (bif (decide (t9 < t8)) then
 (Option.bind (idx t7 t9) fun (e : (Int × Int × Int) × Int × Int × Int × Int × Int) =>
 (if room out.length ([e.1] : List (Int × Int × Int)).length 24 then
 (if fits (t9 + 1) then (go ((out ++ ([e.1] : List (Int × Int × Int))), t7, t8, (t9 + 1))) else none)
 else none))
 else
 (some out))) N (([] : List (Int × Int × Int)), x, (x.length : Int), 0))
def i_pointsIn_M (N : Nat) : Model := ⟨i_pointsIn_arg, i_pointsIn_ret, fun a => i_pointsIn_m N a⟩
set_option maxRecDepth 1000000 in
theorem i_pointsIn_ok (N : Nat) : ModelOk Try.prog 37 (i_pointsIn_M N) :=
  modelOk_of (E := mkEnv [] [] []) (mkEnv_ok fnsOk_nil _ _) Try.func37 (by kernel_rfl) rfl N i_pointsIn_h (i_pointsIn_M N) (by kernel_rfl) (by kernel_rfl) (fun a => by kernel_rfl)
/-! loop.example/fossick/impl.within -/
def i_within_arg : Sh := ⟨[.pv (.int .i64), .pv (.int .i64), .pv (.int .i64)], []⟩
def i_within_ret : Sh := ⟨[.pv .bool], []⟩
def i_within_h : Hint := .no
def i_within_m (N : Nat) (n : Int) (low : Int) (high : Int) : Option (Bool) :=
 (bif (decide (low ≤ n)) then
 (some (decide (n ≤ high)))
 else
 (some false))
def i_within_M (N : Nat) : Model := ⟨i_within_arg, i_within_ret, fun a => i_within_m N a.1 a.2.1 a.2.2⟩
set_option maxRecDepth 1000000 in
theorem i_within_ok (N : Nat) : ModelOk Try.prog 38 (i_within_M N) :=
  modelOk_of (E := mkEnv [] [] []) (mkEnv_ok fnsOk_nil _ _) Try.func38 (by kernel_rfl) rfl N i_within_h (i_within_M N) (by kernel_rfl) (by kernel_rfl) (fun a => by kernel_rfl)
/-! loop.example/fossick/impl.byAxis -/
def i_byAxis_arg : Sh := ⟨[.pv (.int .i64)], []⟩
def i_byAxis_ret : Sh := ⟨[.clo 85 [.box 1 0]], [(1, false, [.pv (.int .i64)])]⟩
def i_byAxis_h : Hint := .no
def i_byAxis_m (N : Nat) (level : Int) : Option (Int) :=
 (some level)
def i_byAxis_M (N : Nat) : Model := ⟨i_byAxis_arg, i_byAxis_ret, fun a => i_byAxis_m N a⟩
set_option maxRecDepth 1000000 in
theorem i_byAxis_ok (N : Nat) : ModelOk Try.prog 76 (i_byAxis_M N) :=
  modelOk_of (E := mkEnv [] [] []) (mkEnv_ok fnsOk_nil _ _) Try.func76 (by kernel_rfl) rfl N i_byAxis_h (i_byAxis_M N) (by kernel_rfl) (by kernel_rfl) (fun a => by kernel_rfl)
/-! math/bits.Len64 -/
def k_math_bits_Len64_arg : Sh := ⟨[.pv (.int .u64)], []⟩
def k_math_bits_Len64_ret : Sh := ⟨[.pv (.int .i64)], []⟩
def k_math_bits_Len64_s1 : Sh := ⟨[.pv (.int .u64), .dead, .pv (.int .i64), .dead, .dead, .dead, .dead, .dead, .dead, .dead, .dead, .dead, .dead, .dead, .dead, .dead, .dead, .dead, .dead, .dead, .dead, .dead, .dead, .dead, .dead], []⟩
def k_math_bits_Len64_s2 : Sh := ⟨[.pv (.int .u64), .dead, .pv (.int .i64), .dead, .dead, .dead, .dead, .dead, .dead, .dead, .dead, .dead, .dead, .dead, .dead, .dead, .dead, .dead, .dead, .dead, .dead, .dead, .dead, .dead, .dead], []⟩
def k_math_bits_Len64_s3 : Sh := ⟨[.pv (.int .u64), .dead, .pv (.int .i64), .dead, .dead, .dead, .dead, .dead, .dead, .dead, .dead, .dead, .dead, .dead, .dead, .dead, .dead, .dead, .dead, .dead, .dead, .dead, .dead, .dead, .dead], []⟩
def k_math_bits_Len64_h : Hint := (.seq .no (.meet k_math_bits_Len64_s3 .no (.meet k_math_bits_Len64_s2 .no (.meet k_math_bits_Len64_s1 .no .no))))
def k_math_bits_Len64_m (N : Nat) (x : Int) : Option (Int) :=
 (meet (fun (g : Int × Int) =>
 match g with
 | (x2, n) =>
 (meet (fun (g : Int × Int) =>
 match g with
 | (x3, n2) =>
 (meet (fun (g : Int × Int) =>
 match g with
 | (x4, n3) =>
 (Option.bind (idx ([0, 1, 2, 2, 3, 3, 3, 3, 4, 4, 4, 4, 4, 4, 4, 4, 5, 5, 5, 5, 5, 5, 5, 5, 5, 5, 5, 5, 5, 5, 5, 5, 6, 6, 6, 6, 6, 6, 6, 6, 6, 6, 6, 6, 6, 6, 6, 6, 6, 6, 6, 6, 6, 6, 6, 6, 6, 6, 6, 6, 6, 6, 6, 6, 7, 7, 7, 7, 7, 7, 7, 7, 7, 7, 7, 7, 7, 7, 7, 7, 7, 7, 7, 7, 7, 7, 7, 7, 7, 7, 7, 7, 7, 7, 7, 7, 7, 7, 7, 7, 7, 7, 7, 7, 7, 7, 7, 7, 7, 7, 7, 7, 7, 7, 7, 7, 7, 7, 7, 7, 7, 7, 7, 7, 7, 7, 7, 7, 8, 8, 8, 8, 8, 8, 8, 8, 8, 8, 8, 8, 8, 8, 8, 8, 8, 8, 8, 8, 8, 8, 8, 8, 8, 8, 8, 8, 8, 8, 8, 8, 8, 8, 8, 8, 8, 8, 8, 8, 8, 8, 8, 8, 8, 8, 8, 8, 8, 8, 8, 8, 8, 8, 8, 8, 8, 8, 8, 8, 8, 8, 8, 8, 8, 8, 8, 8, 8, 8, 8, 8, 8, 8, 8, 8, 8, 8, 8, 8, 8, 8, 8, 8, 8, 8, 8, 8, 8, 8, 8, 8, 8, 8, 8, 8, 8, 8, 8, 8, 8, 8, 8, 8, 8, 8, 8, 8, 8, 8, 8, 8, 8, 8, 8, 8, 8, 8, 8, 8, 8, 8, 8, 8, 8, 8, 8, 8] : List UInt8) (IntKind.u8.wrap x4)) fun (c : UInt8) =>
 (if fits (n3 + (IntKind.i64.wrap (c.toNat : Int))) then (some (n3 + (IntKind.i64.wrap (c.toNat : Int)))) else none))) fun (J3 : (Int × Int) → Option Int) =>
 (bif (decide ((256 : Int) ≤ x3)) then
 (if 0 ≤ (8 : Int) then
 (if fits (n2 + 8) then (J3 ((x3.fdiv (2 ^ (min (8 : Int).toNat (IntKind.bits .u64)))), (n2 + 8))) else none)
 else none)
 else
 (J3 (x3, n2))))) fun (J2 : (Int × Int) → Option Int) =>
 (bif (decide ((65536 : Int) ≤ x2)) then
 (if 0 ≤ (16 : Int) then
 (if fits (n + 16) then (J2 ((x2.fdiv (2 ^ (min (16 : Int).toNat (IntKind.bits .u64)))), (n + 16))) else none)
 else none)
 else
 (J2 (x2, n))))) fun (J : (Int × Int) → Option Int) =>
 (bif (decide ((4294967296 : Int) ≤ x)) then
 (if 0 ≤ (32 : Int) then
 (J ((x.fdiv (2 ^ (min (32 : Int).toNat (IntKind.bits .u64)))), 32))
 else none)
 else
 (J (x, 0))))
def k_math_bits_Len64_M (N : Nat) : Model := ⟨k_math_bits_Len64_arg, k_math_bits_Len64_ret, fun a => k_math_bits_Len64_m N a⟩
set_option maxRecDepth 1000000 in
theorem k_math_bits_Len64_ok (N : Nat) : ModelOk Try.prog 72 (k_math_bits_Len64_M N) :=
  modelOk_of (E := mkEnv [] [] []) (mkEnv_ok fnsOk_nil _ _) Try.func72 (by kernel_rfl) rfl N k_math_bits_Len64_h (k_math_bits_Len64_M N) (by kernel_rfl) (by kernel_rfl) (fun a => by kernel_rfl)
/-! math/bits.Len -/
def k_math_bits_Len_arg : Sh := ⟨[.pv (.int .u64)], []⟩
def k_math_bits_Len_ret : Sh := ⟨[.pv (.int .i64)], []⟩
def k_math_bits_Len_h : Hint := .no
def k_math_bits_Len_m (N : Nat) (x : Int) : Option (Int) :=
 (Option.bind (k_math_bits_Len64_m N x) fun (r : Int) =>
 (some r))
def k_math_bits_Len_M (N : Nat) : Model := ⟨k_math_bits_Len_arg, k_math_bits_Len_ret, fun a => k_math_bits_Len_m N a⟩
set_option maxRecDepth 1000000 in
theorem k_math_bits_Len_ok (N : Nat) : ModelOk Try.prog 49 (k_math_bits_Len_M N) :=
  modelOk_of (E := mkEnv [(72, k_math_bits_Len64_M N)] [] []) (mkEnv_ok (fnsOk_cons (k_math_bits_Len64_ok N) fnsOk_nil) _ _) Try.func49 (by kernel_rfl) rfl N k_math_bits_Len_h (k_math_bits_Len_M N) (by kernel_rfl) (by kernel_rfl) (fun a => by kernel_rfl)
/-! cmp.isNaN[int] -/
def k_cmp_isNaN_538_arg : Sh := ⟨[.pv (.int .i64)], []⟩
def k_cmp_isNaN_538_ret : Sh := ⟨[.pv .bool], []⟩
def k_cmp_isNaN_538_h : Hint := .no
def k_cmp_isNaN_538_m (N : Nat) (x : Int) : Option (Bool) :=
 (some (!decide (x = x)))
def k_cmp_isNaN_538_M (N : Nat) : Model := ⟨k_cmp_isNaN_538_arg, k_cmp_isNaN_538_ret, fun a => k_cmp_isNaN_538_m N a⟩
set_option maxRecDepth 1000000 in
theorem k_cmp_isNaN_538_ok (N : Nat) : ModelOk Try.prog 83 (k_cmp_isNaN_538_M N) :=
  modelOk_of (E := mkEnv [] [] []) (mkEnv_ok fnsOk_nil _ _) Try.func83 (by kernel_rfl) rfl N k_cmp_isNaN_538_h (k_cmp_isNaN_538_M N) (by kernel_rfl) (by kernel_rfl) (fun a => by kernel_rfl)
/-! cmp.Compare[int] -/
def k_cmp_Compare_992_arg : Sh := ⟨[.pv (.int .i64), .pv (.int .i64)], []⟩
def k_cmp_Compare_992_ret : Sh := ⟨[.pv (.int .i64)], []⟩
def k_cmp_Compare_992_h : Hint := .no
def k_cmp_Compare_992_m (N : Nat) (x : Int) (y : Int) : Option (Int) :=
 (Option.bind (k_cmp_isNaN_538_m N x) fun (r : Bool) =>
 (Option.bind (k_cmp_isNaN_538_m N y) fun (r2 : Bool) =>
 (bif r then
 (bif r2 then
 (some 0)
 else
 (some (-1)))
 else
 (bif r2 then
 (some 1)
 else
 (bif (decide (x < y)) then
 (some (-1))
 else
 (bif (decide (y < x)) then
 (some 1)
 else
 (some 0)))))))
def k_cmp_Compare_992_M (N : Nat) : Model := ⟨k_cmp_Compare_992_arg, k_cmp_Compare_992_ret, fun a => k_cmp_Compare_992_m N a.1 a.2⟩
set_option maxRecDepth 1000000 in
theorem k_cmp_Compare_992_ok (N : Nat) : ModelOk Try.prog 86 (k_cmp_Compare_992_M N) :=
  modelOk_of (E := mkEnv [(83, k_cmp_isNaN_538_M N)] [] []) (mkEnv_ok (fnsOk_cons (k_cmp_isNaN_538_ok N) fnsOk_nil) _ _) Try.func86 (by kernel_rfl) rfl N k_cmp_Compare_992_h (k_cmp_Compare_992_M N) (by kernel_rfl) (by kernel_rfl) (fun a => by kernel_rfl)
/-! cmp.Or[int] -/
def k_cmp_Or_892_arg : Sh := ⟨[.pv (.sl (.int .i64))], []⟩
def k_cmp_Or_892_ret : Sh := ⟨[.pv (.int .i64)], []⟩
def k_cmp_Or_892_s1 : Sh := ⟨[.dead, .dead, .dead, .pv (.int .i64), .dead, .dead, .pv (.sl (.int .i64)), .pv (.int .i64), .pv (.int .i64), .dead, .dead, .dead, .dead, .dead, .dead, .dead, .dead, .dead], []⟩
def k_cmp_Or_892_h : Hint := (.seq .no (.seq .no (.seq (.seq .no (.block (.loop k_cmp_Or_892_s1 .no))) .no)))
def k_cmp_Or_892_m (N : Nat) (vals : List Int) : Option (Int) :=
 (iter (fun (go : (Int × (List Int) × Int × Int) → Option Int) (g : Int × (List Int) × Int × Int) =>
 match g with
 | (zero, t6, t7, t8) =>
 (bif (decide (t8 < t7)) then
 (Option.bind (idx t6 t8) fun (e : Int) =>
 (bif (!decide (e = zero)) then
 (some e)
 else
 (if fits (t8 + 1) then (go (zero, t6, t7, (t8 + 1))) else none)))
 else
 (some zero))) N (0, vals, (vals.length : Int), 0))
def k_cmp_Or_892_M (N : Nat) : Model := ⟨k_cmp_Or_892_arg, k_cmp_Or_892_ret, fun a => k_cmp_Or_892_m N a⟩
set_option maxRecDepth 1000000 in
theorem k_cmp_Or_892_ok (N : Nat) : ModelOk Try.prog 87 (k_cmp_Or_892_M N) :=
  modelOk_of (E := mkEnv [] [] []) (mkEnv_ok fnsOk_nil _ _) Try.func87 (by kernel_rfl) rfl N k_cmp_Or_892_h (k_cmp_Or_892_M N) (by kernel_rfl) (by kernel_rfl) (fun a => by kernel_rfl)
/-! loop.example/fossick/impl.byAxis$1 -/
def i_byAxis_1_arg : Sh := ⟨[.agg [.pv (.int .i64), .pv (.int .i64), .pv (.int .i64)], .agg [.pv (.int .i64), .pv (.int .i64), .pv (.int .i64)], .ptr (.int .i64)], []⟩
def i_byAxis_1_ret : Sh := ⟨[.pv (.int .i64)], []⟩
def i_byAxis_1_s1 : Sh := ⟨[.dead, .dead, .dead, .box 3 0, .box 4 0, .dead, .pv (.int .i64), .pv (.int .i64), .dead, .dead, .dead, .dead, .dead, .dead, .dead, .dead, .dead, .dead, .dead, .dead, .dead, .dead, .dead, .dead, .dead, .dead, .dead, .dead, .dead, .dead, .dead, .dead], [(3, false, [.pv (.int .i64), .pv (.int .i64), .pv (.int .i64)]), (4, false, [.pv (.int .i64), .pv (.int .i64), .pv (.int .i64)])]⟩
def i_byAxis_1_h : Hint := (.seq .no (.seq .no (.meet i_byAxis_1_s1 .no .no)))
def i_byAxis_1_m (N : Nat) (a : Int) (a2 : Int) (a3 : Int) (b : Int) (b2 : Int) (b3 : Int) (t2 : Int) : Option (Int) :=
 (Option.bind (k_cmp_Compare_992_m N a2 b2) fun (r : Int) =>
 (Option.bind (k_cmp_Compare_992_m N a3 b3) fun (r2 : Int) =>
 (meet (fun (g : Int × Int × Int × Int × Int × Int × Int × Int) =>
 match g with
 | (x, y, a4, a5, a6, b4, b5, b6) =>
 (Option.bind (k_cmp_Compare_992_m N a4 b4) fun (r3 : Int) =>
 (Option.bind (k_cmp_Or_892_m N ([x, y, r3] : List Int)) fun (r4 : Int) =>
 (some r4)))) fun (J : (Int × Int × Int × Int × Int × Int × Int × Int) → Option Int) =>
 (if 2 ≠ 0 then
 (bif (decide ((t2.tmod 2) = 1)) then
 (J (r2, r, a, a2, a3, b, b2, b3))
 else
 (J (r, r2, a, a2, a3, b, b2, b3)))
 else none))))
def i_byAxis_1_M (N : Nat) : Model := ⟨i_byAxis_1_arg, i_byAxis_1_ret, fun a => i_byAxis_1_m N a.1 a.2.1 a.2.2.1 a.2.2.2.1 a.2.2.2.2.1 a.2.2.2.2.2.1 a.2.2.2.2.2.2⟩
set_option maxRecDepth 1000000 in
theorem i_byAxis_1_ok (N : Nat) : ModelOk Try.prog 85 (i_byAxis_1_M N) :=
  modelOk_of (E := mkEnv [(86, k_cmp_Compare_992_M N), (87, k_cmp_Or_892_M N)] [] []) (mkEnv_ok (fnsOk_cons (k_cmp_Compare_992_ok N) (fnsOk_cons (k_cmp_Or_892_ok N) fnsOk_nil)) _ _) Try.func85 (by kernel_rfl) rfl N i_byAxis_1_h (i_byAxis_1_M N) (by kernel_rfl) (by kernel_rfl) (fun a => by kernel_rfl)
/-! slices.insertionSortCmpFunc[loop.example/fossick/impl.Point] -/
def k_slices_insertionSortCmpFunc_647_arg : Sh := ⟨[.mtk 800000 (.pair (.int .i64) (.pair (.int .i64) (.int .i64))) 36 true, .pv (.int .i64), .pv (.int .i64), .clo 85 [.ptr (.int .i64)]], []⟩
def k_slices_insertionSortCmpFunc_647_ret : Sh := ⟨[.tup [], .mtk 800000 (.pair (.int .i64) (.pair (.int .i64) (.int .i64))) 36 true], []⟩
def k_slices_insertionSortCmpFunc_647_s1 : Sh := ⟨[.mtk 800000 (.pair (.int .i64) (.pair (.int .i64) (.int .i64))) 36 true, .pv (.int .i64), .pv (.int .i64), .clo 85 [.ptr (.int .i64)], .dead, .dead, .dead, .dead, .pv (.int .i64), .dead, .dead, .dead, .dead, .dead, .dead, .dead, .dead, .dead, .dead, .dead, .dead, .dead, .dead, .dead, .dead, .dead, .dead, .dead, .dead, .dead, .dead, .dead, .dead, .dead, .dead, .dead, .dead, .dead, .dead, .dead, .dead, .dead, .dead, .dead, .dead, .dead, .dead, .dead, .dead, .dead, .dead, .dead, .dead], []⟩
def k_slices_insertionSortCmpFunc_647_s2 : Sh := ⟨[.mtk 800000 (.pair (.int .i64) (.pair (.int .i64) (.int .i64))) 36 true, .pv (.int .i64), .pv (.int .i64), .clo 85 [.ptr (.int .i64)], .dead, .dead, .dead, .dead, .pv (.int .i64), .pv (.int .i64), .dead, .dead, .dead, .dead, .dead, .dead, .dead, .dead, .dead, .dead, .dead, .dead, .dead, .dead, .dead, .dead, .dead, .dead, .dead, .dead, .dead, .dead, .dead, .dead, .dead, .dead, .dead, .dead, .dead, .dead, .dead, .dead, .dead, .dead, .dead, .dead, .dead, .dead, .dead, .dead, .dead, .dead, .dead], []⟩
def k_slices_insertionSortCmpFunc_647_h : Hint := (.seq .no (.block (.loop k_slices_insertionSortCmpFunc_647_s1 (.seq .no (.seq (.block (.seq .no (.block (.loop k_slices_insertionSortCmpFunc_647_s2 .no)))) .no)))))
def k_slices_insertionSortCmpFunc_647_m (N : Nat) (data : List (Int × Int × Int)) (a : Int) (b : Int) (cmp : Int) : Option ((List (Int × Int × Int))) :=
 (if fits (a + 1) then (iter (fun (go : ((List (Int × Int × Int)) × Int × Int × Int × Int) → Option ((List (Int × Int × Int)))) (g : (List (Int × Int × Int)) × Int × Int × Int × Int) =>
 match g with
 | (data2, a2, b2, cmp2, i) =>
 (bif (decide (i < b2)) then
 (iter (fun (go2 : ((List (Int × Int × Int)) × Int × Int × Int × Int × Int) → Option ((List (Int × Int × Int)))) (g : (List (Int × Int × Int)) × Int × Int × Int × Int × Int) =>
 match g with
 | (data3, a3, b3, cmp3, i2, j) =>
 (bif (decide (a3 < j)) then
 (if 0 ≤ j ∧ j < (data3.length : Int) then
 (Option.bind (data3[j.toNat]?) fun (e : Int × Int × Int) =>
 (if fits (j - 1) then (if 0 ≤ (j - 1) ∧ (j - 1) < (data3.length : Int) then
 (Option.bind (data3[(j - 1).toNat]?) fun (e2 : Int × Int × Int) =>
 (Option.bind (i_byAxis_1_m N e.1 e.2.1 e.2.2 e2.1 e2.2.1 e2.2.2 cmp3) fun (r : Int) =>
 (bif (decide (r < 0)) then
 (if fits (j - 1) then (if fits (j - 1) then (if 0 ≤ (j - 1) ∧ (j - 1) < (data3.length : Int) then
 (Option.bind (data3[(j - 1).toNat]?) fun (e3 : Int × Int × Int) =>
 (if 0 ≤ j ∧ j < (data3.length : Int) then
 (Option.bind (data3[j.toNat]?) fun (e4 : Int × Int × Int) =>
 (if 0 ≤ j ∧ j < (data3.length : Int) then
 (Option.bind (data3[j.toNat]?) fun (e5 : Int × Int × Int) =>
 (if 0 ≤ (j - 1) ∧ (j - 1) < ((data3.set j.toNat e3).length : Int) then
 (Option.bind ((data3.set j.toNat e3)[(j - 1).toNat]?) fun (e6 : Int × Int × Int) =>
 (if fits (j - 1) then (go2 (((data3.set j.toNat e3).set (j - 1).toNat e4), a3, b3, cmp3, i2, (j - 1))) else none))
 else none))
 else none))
 else none))
 else none) else none) else none)
 else
 (if fits (i2 + 1) then (go (data3, a3, b3, cmp3, (i2 + 1))) else none))))
 else none) else none))
 else none)
 else
 (if fits (i2 + 1) then (go (data3, a3, b3, cmp3, (i2 + 1))) else none))) N (data2, a2, b2, cmp2, i, i))
 else
 (some data2))) N (data, a, b, cmp, (a + 1))) else none)
def k_slices_insertionSortCmpFunc_647_M (N : Nat) : Model := ⟨k_slices_insertionSortCmpFunc_647_arg, k_slices_insertionSortCmpFunc_647_ret, fun a => k_slices_insertionSortCmpFunc_647_m N a.1 a.2.1 a.2.2.1 a.2.2.2⟩
set_option maxRecDepth 1000000 in
theorem k_slices_insertionSortCmpFunc_647_ok (N : Nat) : ModelOk Try.prog 89 (k_slices_insertionSortCmpFunc_647_M N) :=
  modelOk_of (E := mkEnv [(85, i_byAxis_1_M N)] [] [800000]) (mkEnv_ok (fnsOk_cons (i_byAxis_1_ok N) fnsOk_nil) _ _) Try.func89 (by kernel_rfl) rfl N k_slices_insertionSortCmpFunc_647_h (k_slices_insertionSortCmpFunc_647_M N) (by kernel_rfl) (by kernel_rfl) (fun a => by kernel_rfl)
/-! slices.siftDownCmpFunc[loop.example/fossick/impl.Point] -/
def k_slices_siftDownCmpFunc_505_arg : Sh := ⟨[.mtk 800000 (.pair (.int .i64) (.pair (.int .i64) (.int .i64))) 36 true, .pv (.int .i64), .pv (.int .i64), .pv (.int .i64), .clo 85 [.ptr (.int .i64)]], []⟩
def k_slices_siftDownCmpFunc_505_ret : Sh := ⟨[.tup [], .mtk 800000 (.pair (.int .i64) (.pair (.int .i64) (.int .i64))) 36 true], []⟩
def k_slices_siftDownCmpFunc_505_s1 : Sh := ⟨[.mtk 800000 (.pair (.int .i64) (.pair (.int .i64) (.int .i64))) 36 true, .dead, .pv (.int .i64), .pv (.int .i64), .clo 85 [.ptr (.int .i64)], .dead, .dead, .dead, .dead, .dead, .pv (.int .i64), .dead, .dead, .dead, .dead, .dead, .dead, .dead, .dead, .dead, .dead, .dead, .dead, .dead, .dead, .dead, .dead, .dead, .dead, .dead, .dead, .dead, .dead, .dead, .dead, .dead, .dead, .dead, .dead, .dead, .dead, .dead, .dead, .dead, .dead, .dead, .dead, .dead, .dead, .dead, .dead, .dead, .dead, .dead, .dead, .dead, .dead, .dead, .dead, .dead, .dead, .dead, .dead, .dead, .dead, .dead, .dead, .dead, .dead, .dead, .dead, .dead, .dead, .dead, .dead, .dead, .dead, .dead, .dead, .dead, .dead, .dead], []⟩
def k_slices_siftDownCmpFunc_505_s2 : Sh := ⟨[.mtk 800000 (.pair (.int .i64) (.pair (.int .i64) (.int .i64))) 36 true, .dead, .pv (.int .i64), .pv (.int .i64), .clo 85 [.ptr (.int .i64)], .dead, .dead, .dead, .dead, .dead, .pv (.int .i64), .pv (.int .i64), .dead, .dead, .dead, .dead, .dead, .dead, .dead, .dead, .dead, .dead, .dead, .dead, .dead, .dead, .dead, .dead, .dead, .dead, .dead, .dead, .dead, .dead, .dead, .dead, .dead, .dead, .dead, .dead, .dead, .dead, .dead, .dead, .dead, .dead, .dead, .dead, .dead, .dead, .dead, .dead, .dead, .dead, .dead, .dead, .dead, .dead, .dead, .dead, .dead, .dead, .dead, .dead, .dead, .dead, .dead, .dead, .dead, .dead, .dead, .dead, .dead, .dead, .dead, .dead, .dead, .dead, .dead, .dead, .dead, .dead], []⟩
def k_slices_siftDownCmpFunc_505_h : Hint := (.seq .no (.block (.loop k_slices_siftDownCmpFunc_505_s1 (.block (.seq .no (.seq .no (.meet k_slices_siftDownCmpFunc_505_s2 .no .no)))))))
def k_slices_siftDownCmpFunc_505_m (N : Nat) (data : List (Int × Int × Int)) (lo : Int) (hi : Int) (first : Int) (cmp : Int) : Option ((List (Int × Int × Int))) :=
 (iter (fun (go : ((List (Int × Int × Int)) × Int × Int × Int × Int) → Option ((List (Int × Int × Int)))) (g : (List (Int × Int × Int)) × Int × Int × Int × Int) =>
 match g with
 | (data2, hi2, first2, cmp2, root) =>
 (if fits (2 * root) then (if fits ((2 * root) + 1) then (bif (decide (hi2 ≤ ((2 * root) + 1))) then
 (some data2)
 else
 (meet (fun (g : (List (Int × Int × Int)) × Int × Int × Int × Int × Int) =>
 match g with
 | (data3, hi3, first3, cmp3, root2, child) =>
 (if fits (first3 + root2) then (if 0 ≤ (first3 + root2) ∧ (first3 + root2) < (data3.length : Int) then
 (Option.bind (data3[(first3 + root2).toNat]?) fun (e3 : Int × Int × Int) =>
 (if fits (first3 + child) then (if 0 ≤ (first3 + child) ∧ (first3 + child) < (data3.length : Int) then
 (Option.bind (data3[(first3 + child).toNat]?) fun (e4 : Int × Int × Int) =>
 (Option.bind (i_byAxis_1_m N e3.1 e3.2.1 e3.2.2 e4.1 e4.2.1 e4.2.2 cmp3) fun (r2 : Int) =>
 (bif (!(decide (r2 < 0))) then
 (some data3)
 else
 (if fits (first3 + root2) then (if fits (first3 + child) then (if fits (first3 + child) then (if 0 ≤ (first3 + child) ∧ (first3 + child) < (data3.length : Int) then
 (Option.bind (data3[(first3 + child).toNat]?) fun (e5 : Int × Int × Int) =>
 (if fits (first3 + root2) then (if 0 ≤ (first3 + root2) ∧ (first3 + root2) < (data3.length : Int) then
 (Option.bind (data3[(first3 + root2).toNat]?) fun (e6 : Int × Int × Int) =>
 (if 0 ≤ (first3 + root2) ∧ (first3 + root2) < (data3.length : Int) then
 (Option.bind (data3[(first3 + root2).toNat]?) fun (e7 : Int × Int × Int) =>
 (if 0 ≤ (first3 + child) ∧ (first3 + child) < ((data3.set (first3 + root2).toNat e5).length : Int) then
 (Option.bind ((data3.set (first3 + root2).toNat e5)[(first3 + child).toNat]?) fun (e8 : Int × Int × Int) =>
 (go (((data3.set (first3 + root2).toNat e5).set (first3 + child).toNat e6), hi3, first3, cmp3, child)))
 else none))
 else none))
 else none) else none))
 else none) else none) else none) else none))))
 else none) else none))
 else none) else none)) fun (J : ((List (Int × Int × Int)) × Int × Int × Int × Int × Int) → Option ((List (Int × Int × Int)))) =>
 (if fits (((2 * root) + 1) + 1) then (bif (decide ((((2 * root) + 1) + 1) < hi2)) then
 (if fits (first2 + ((2 * root) + 1)) then (if 0 ≤ (first2 + ((2 * root) + 1)) ∧ (first2 + ((2 * root) + 1)) < (data2.length : Int) then
 (Option.bind (data2[(first2 + ((2 * root) + 1)).toNat]?) fun (e : Int × Int × Int) =>
 (if fits (first2 + ((2 * root) + 1)) then (if fits ((first2 + ((2 * root) + 1)) + 1) then (if 0 ≤ ((first2 + ((2 * root) + 1)) + 1) ∧ ((first2 + ((2 * root) + 1)) + 1) < (data2.length : Int) then
 (Option.bind (data2[((first2 + ((2 * root) + 1)) + 1).toNat]?) fun (e2 : Int × Int × Int) =>
 (Option.bind (i_byAxis_1_m N e.1 e.2.1 e.2.2 e2.1 e2.2.1 e2.2.2 cmp2) fun (r : Int) =>
 (bif (decide (r < 0)) then
 (if fits (((2 * root) + 1) + 1) then (J (data2, hi2, first2, cmp2, root, (((2 * root) + 1) + 1))) else none)
 else
 (J (data2, hi2, first2, cmp2, root, ((2 * root) + 1))))))
 else none) else none) else none))
 else none) else none)
 else
 (J (data2, hi2, first2, cmp2, root, ((2 * root) + 1)))) else none))) else none) else none)) N (data, hi, first, cmp, lo))
def k_slices_siftDownCmpFunc_505_M (N : Nat) : Model := ⟨k_slices_siftDownCmpFunc_505_arg, k_slices_siftDownCmpFunc_505_ret, fun a => k_slices_siftDownCmpFunc_505_m N a.1 a.2.1 a.2.2.1 a.2.2.2.1 a.2.2.2.2⟩
set_option maxRecDepth 1000000 in
theorem k_slices_siftDownCmpFunc_505_ok (N : Nat) : ModelOk Try.prog 97 (k_slices_siftDownCmpFunc_505_M N) :=
  modelOk_of (E := mkEnv [(85, i_byAxis_1_M N)] [] [800000]) (mkEnv_ok (fnsOk_cons (i_byAxis_1_ok N) fnsOk_nil) _ _) Try.func97 (by kernel_rfl) rfl N k_slices_siftDownCmpFunc_505_h (k_slices_siftDownCmpFunc_505_M N) (by kernel_rfl) (by kernel_rfl) (fun a => by kernel_rfl)
/-! slices.heapSortCmpFunc[loop.example/fossick/impl.Point] -/
def k_slices_heapSortCmpFunc_709_arg : Sh := ⟨[.mtk 800000 (.pair (.int .i64) (.pair (.int .i64) (.int .i64))) 36 true, .pv (.int .i64), .pv (.int .i64), .clo 85 [.ptr (.int .i64)]], []⟩
def k_slices_heapSortCmpFunc_709_ret : Sh := ⟨[.tup [], .mtk 800000 (.pair (.int .i64) (.pair (.int .i64) (.int .i64))) 36 true], []⟩
def k_slices_heapSortCmpFunc_709_s1 : Sh := ⟨[.mtk 800000 (.pair (.int .i64) (.pair (.int .i64) (.int .i64))) 36 true, .dead, .dead, .clo 85 [.ptr (.int .i64)], .dead, .dead, .dead, .dead, .pv (.int .i64), .pv (.int .i64), .pv (.int .i64), .pv (.int .i64), .dead, .dead, .dead, .dead, .dead, .dead, .dead, .dead, .dead, .dead, .dead, .dead, .dead, .dead, .dead, .dead, .dead, .dead, .dead, .dead, .dead, .dead, .dead, .dead, .dead, .dead, .dead, .dead, .dead, .dead, .dead, .dead, .dead, .dead, .dead, .dead, .dead, .dead, .dead, .dead, .dead, .dead, .dead, .dead, .dead, .dead, .dead, .dead], []⟩
def k_slices_heapSortCmpFunc_709_s2 : Sh := ⟨[.mtk 800000 (.pair (.int .i64) (.pair (.int .i64) (.int .i64))) 36 true, .dead, .dead, .clo 85 [.ptr (.int .i64)], .dead, .dead, .dead, .dead, .pv (.int .i64), .pv (.int .i64), .dead, .dead, .pv (.int .i64), .dead, .dead, .dead, .dead, .dead, .dead, .dead, .dead, .dead, .dead, .dead, .dead, .dead, .dead, .dead, .dead, .dead, .dead, .dead, .dead, .dead, .dead, .dead, .dead, .dead, .dead, .dead, .dead, .dead, .dead, .dead, .dead, .dead, .dead, .dead, .dead, .dead, .dead, .dead, .dead, .dead, .dead, .dead, .dead, .dead, .dead, .dead], []⟩
def k_slices_heapSortCmpFunc_709_h : Hint := (.seq .no (.seq .no (.seq .no (.seq (.seq .no (.block (.loop k_slices_heapSortCmpFunc_709_s1 .no))) (.seq .no (.block (.loop k_slices_heapSortCmpFunc_709_s2 .no)))))))
def k_slices_heapSortCmpFunc_709_m (N : Nat) (data : List (Int × Int × Int)) (a : Int) (b : Int) (cmp : Int) : Option ((List (Int × Int × Int))) :=
 (if fits (b - a) then (if fits ((b - a) - 1) then (if 2 ≠ 0 then
 (if fits (((b - a) - 1).tdiv 2) then (iter (fun (go : ((List (Int × Int × Int)) × Int × Int × Int × Int × Int) → Option ((List (Int × Int × Int)))) (g : (List (Int × Int × Int)) × Int × Int × Int × Int × Int) =>
 match g with
 | (data2, cmp2, first, lo, hi, i) =>
 (bif (decide ((0 : Int) ≤ i)) then
 (Option.bind (k_slices_siftDownCmpFunc_505_m N data2 i hi first cmp2) fun (r : (List (Int × Int × Int))) =>
 (if fits (i - 1) then (go (r, cmp2, first, lo, hi, (i - 1))) else none))
 else
 (if fits (hi - 1) then (iter (fun (go2 : ((List (Int × Int × Int)) × Int × Int × Int × Int) → Option ((List (Int × Int × Int)))) (g : (List (Int × Int × Int)) × Int × Int × Int × Int) =>
 match g with
 | (data3, cmp3, first2, lo2, i2) =>
 (bif (decide ((0 : Int) ≤ i2)) then
 (if fits (first2 + i2) then (if fits (first2 + i2) then (if 0 ≤ (first2 + i2) ∧ (first2 + i2) < (data3.length : Int) then
 (Option.bind (data3[(first2 + i2).toNat]?) fun (e : Int × Int × Int) =>
 (if 0 ≤ first2 ∧ first2 < (data3.length : Int) then
 (Option.bind (data3[first2.toNat]?) fun (e2 : Int × Int × Int) =>
 (if 0 ≤ first2 ∧ first2 < (data3.length : Int) then
 (Option.bind (data3[first2.toNat]?) fun (e3 : Int × Int × Int) =>
 (if 0 ≤ (first2 + i2) ∧ (first2 + i2) < ((data3.set first2.toNat e).length : Int) then
 (Option.bind ((data3.set first2.toNat e)[(first2 + i2).toNat]?) fun (e4 : Int × Int × Int) =>
 (Option.bind (k_slices_siftDownCmpFunc_505_m N ((data3.set first2.toNat e).set (first2 + i2).toNat e2) lo2 i2 first2 cmp3) fun (r2 : (List (Int × Int × Int))) =>
 (if fits (i2 - 1) then (go2 (r2, cmp3, first2, lo2, (i2 - 1))) else none)))
 else none))
 else none))
 else none))
 else none) else none) else none)
 else
 (some data3))) N (data2, cmp2, first, lo, (hi - 1))) else none))) N (data, cmp, a, 0, (b - a), (((b - a) - 1).tdiv 2))) else none)
 else none) else none) else none)
def k_slices_heapSortCmpFunc_709_M (N : Nat) : Model := ⟨k_slices_heapSortCmpFunc_709_arg, k_slices_heapSortCmpFunc_709_ret, fun a => k_slices_heapSortCmpFunc_709_m N a.1 a.2.1 a.2.2.1 a.2.2.2⟩
set_option maxRecDepth 1000000 in
theorem k_slices_heapSortCmpFunc_709_ok (N : Nat) : ModelOk Try.prog 90 (k_slices_heapSortCmpFunc_709_M N) :=
  modelOk_of (E := mkEnv [(97, k_slices_siftDownCmpFunc_505_M N)] [] [800000]) (mkEnv_ok (fnsOk_cons (k_slices_siftDownCmpFunc_505_ok N) fnsOk_nil) _ _) Try.func90 (by kernel_rfl) rfl N k_slices_heapSortCmpFunc_709_h (k_slices_heapSortCmpFunc_709_M N) (by kernel_rfl) (by kernel_rfl) (fun a => by kernel_rfl)
/-! slices.nextPowerOfTwo -/
def k_slices_nextPowerOfTwo_arg : Sh := ⟨[.pv (.int .i64)], []⟩
def k_slices_nextPowerOfTwo_ret : Sh := ⟨[.pv (.int .u64)], []⟩
def k_slices_nextPowerOfTwo_h : Hint := .no
def k_slices_nextPowerOfTwo_m (N : Nat) (length : Int) : Option (Int) :=
 (Option.bind (k_math_bits_Len_m N (IntKind.u64.wrap length)) fun (r : Int) =>
 (if 0 ≤ r then
 (some (IntKind.u64.wrap ((1 : Int) * 2 ^ (min r.toNat (IntKind.bits .u64)))))
 else none))
def k_slices_nextPowerOfTwo_M (N : Nat) : Model := ⟨k_slices_nextPowerOfTwo_arg, k_slices_nextPowerOfTwo_ret, fun a => k_slices_nextPowerOfTwo_m N a⟩
set_option maxRecDepth 1000000 in
theorem k_slices_nextPowerOfTwo_ok (N : Nat) : ModelOk Try.prog 79 (k_slices_nextPowerOfTwo_M N) :=
  modelOk_of (E := mkEnv [(49, k_math_bits_Len_M N)] [] []) (mkEnv_ok (fnsOk_cons (k_math_bits_Len_ok N) fnsOk_nil) _ _) Try.func79 (by kernel_rfl) rfl N k_slices_nextPowerOfTwo_h (k_slices_nextPowerOfTwo_M N) (by kernel_rfl) (by kernel_rfl) (fun a => by kernel_rfl)
/-! (*slices.xorshift).Next -/
def k__slices_xorshift_Next_arg : Sh := ⟨[.box 900000 0], [(900000, false, [.pv (.int .u64)])]⟩
def k__slices_xorshift_Next_ret : Sh := ⟨[.pv (.int .u64)], [(900000, false, [.pv (.int .u64)])]⟩
def k__slices_xorshift_Next_h : Hint := .no
def k__slices_xorshift_Next_m (N : Nat) (b : Int) : Option (Int × Int) :=
 (if 0 ≤ (13 : Int) then
 (if 0 ≤ (7 : Int) then
 (if 0 ≤ (17 : Int) then
 (some ((bitsI .xor .u64 (bitsI .xor .u64 (bitsI .xor .u64 b (IntKind.u64.wrap (b * 2 ^ (min (13 : Int).toNat (IntKind.bits .u64))))) ((bitsI .xor .u64 b (IntKind.u64.wrap (b * 2 ^ (min (13 : Int).toNat (IntKind.bits .u64))))).fdiv (2 ^ (min (7 : Int).toNat (IntKind.bits .u64))))) (IntKind.u64.wrap ((bitsI .xor .u64 (bitsI .xor .u64 b (IntKind.u64.wrap (b * 2 ^ (min (13 : Int).toNat (IntKind.bits .u64))))) ((bitsI .xor .u64 b (IntKind.u64.wrap (b * 2 ^ (min (13 : Int).toNat (IntKind.bits .u64))))).fdiv (2 ^ (min (7 : Int).toNat (IntKind.bits .u64))))) * 2 ^ (min (17 : Int).toNat (IntKind.bits .u64))))), (bitsI .xor .u64 (bitsI .xor .u64 (bitsI .xor .u64 b (IntKind.u64.wrap (b * 2 ^ (min (13 : Int).toNat (IntKind.bits .u64))))) ((bitsI .xor .u64 b (IntKind.u64.wrap (b * 2 ^ (min (13 : Int).toNat (IntKind.bits .u64))))).fdiv (2 ^ (min (7 : Int).toNat (IntKind.bits .u64))))) (IntKind.u64.wrap ((bitsI .xor .u64 (bitsI .xor .u64 b (IntKind.u64.wrap (b * 2 ^ (min (13 : Int).toNat (IntKind.bits .u64))))) ((bitsI .xor .u64 b (IntKind.u64.wrap (b * 2 ^ (min (13 : Int).toNat (IntKind.bits .u64))))).fdiv (2 ^ (min (7 : Int).toNat (IntKind.bits .u64))))) * 2 ^ (min (17 : Int).toNat (IntKind.bits .u64)))))))
 else none)
 else none)
 else none)
def k__slices_xorshift_Next_M (N : Nat) : Model := ⟨k__slices_xorshift_Next_arg, k__slices_xorshift_Next_ret, fun a => k__slices_xorshift_Next_m N a⟩
set_option maxRecDepth 1000000 in
theorem k__slices_xorshift_Next_ok (N : Nat) : ModelOk Try.prog 80 (k__slices_xorshift_Next_M N) :=
  modelOk_of (E := mkEnv [] [] [900000]) (mkEnv_ok fnsOk_nil _ _) Try.func80 (by kernel_rfl) rfl N k__slices_xorshift_Next_h (k__slices_xorshift_Next_M N) (by kernel_rfl) (by kernel_rfl) (fun a => by kernel_rfl)
/-! slices.breakPatternsCmpFunc[loop.example/fossick/impl.Point] -/
def k_slices_breakPatternsCmpFunc_393_arg : Sh := ⟨[.mtk 800000 (.pair (.int .i64) (.pair (.int .i64) (.int .i64))) 36 true, .pv (.int .i64), .pv (.int .i64), .clo 85 [.ptr (.int .i64)]], []⟩
def k_slices_breakPatternsCmpFunc_393_ret : Sh := ⟨[.tup [], .mtk 800000 (.pair (.int .i64) (.pair (.int .i64) (.int .i64))) 36 true], []⟩
def k_slices_breakPatternsCmpFunc_393_s1 : Sh := ⟨[.mtk 800000 (.pair (.int .i64) (.pair (.int .i64) (.int .i64))) 36 true, .pv (.int .i64), .dead, .dead, .dead, .dead, .dead, .dead, .pv (.int .i64), .box 9 0, .pv (.int .u64), .pv (.int .i64), .dead, .dead, .dead, .dead, .dead, .dead, .dead, .dead, .dead, .dead, .dead, .dead, .dead, .dead, .dead, .dead, .dead, .dead, .dead, .dead, .dead, .dead, .dead, .dead, .dead, .dead, .dead, .dead, .dead, .dead, .dead, .dead, .dead, .dead, .dead, .dead, .dead, .dead, .dead, .dead, .dead, .dead, .dead, .dead, .dead, .dead, .dead, .dead, .dead, .dead, .dead, .dead, .dead, .dead, .dead], [(9, false, [.pv (.int .u64)])]⟩
def k_slices_breakPatternsCmpFunc_393_s2 : Sh := ⟨[.mtk 800000 (.pair (.int .i64) (.pair (.int .i64) (.int .i64))) 36 true, .pv (.int .i64), .dead, .dead, .dead, .dead, .dead, .dead, .pv (.int .i64), .box 9 0, .pv (.int .u64), .pv (.int .i64), .pv (.int .i64), .dead, .dead, .dead, .dead, .dead, .dead, .dead, .dead, .dead, .dead, .dead, .dead, .dead, .dead, .dead, .dead, .dead, .dead, .dead, .dead, .dead, .dead, .dead, .dead, .dead, .dead, .dead, .dead, .dead, .dead, .dead, .dead, .dead, .dead, .dead, .dead, .dead, .dead, .dead, .dead, .dead, .dead, .dead, .dead, .dead, .dead, .dead, .dead, .dead, .dead, .dead, .dead, .dead, .dead], [(9, false, [.pv (.int .u64)])]⟩
def k_slices_breakPatternsCmpFunc_393_h : Hint := (.seq .no (.seq .no (.cond (.seq .no (.seq .no (.seq .no (.block (.loop k_slices_breakPatternsCmpFunc_393_s1 (.seq .no (.seq (.block (.seq .no (.meet k_slices_breakPatternsCmpFunc_393_s2 .no .no))) .no))))))) .no)))
def k_slices_breakPatternsCmpFunc_393_m (N : Nat) (data : List (Int × Int × Int)) (a : Int) (b : Int) (cmp : Int) : Option ((List (Int × Int × Int))) :=
 (if fits (b - a) then (bif (decide ((8 : Int) ≤ (b - a))) then
 (Option.bind (k_slices_nextPowerOfTwo_m N (b - a)) fun (r : Int) =>
 (if 4 ≠ 0 then
 (if fits ((b - a).tdiv 4) then (if fits (((b - a).tdiv 4) * 2) then (if fits (a + (((b - a).tdiv 4) * 2)) then (if fits ((a + (((b - a).tdiv 4) * 2)) - 1) then (iter (fun (go : ((List (Int × Int × Int)) × Int × Int × Int × Int × Int) → Option ((List (Int × Int × Int)))) (g : (List (Int × Int × Int)) × Int × Int × Int × Int × Int) =>
 match g with
 | (data2, a2, length, modulus, idx0, random) =>
 (if 4 ≠ 0 then
 (if fits (length.tdiv 4) then (if fits ((length.tdiv 4) * 2) then (if fits (a2 + ((length.tdiv 4) * 2)) then (if fits ((a2 + ((length.tdiv 4) * 2)) + 1) then (bif (decide (idx0 ≤ ((a2 + ((length.tdiv 4) * 2)) + 1))) then
 (Option.bind (k__slices_xorshift_Next_m N random) fun (r2 : Int × Int) =>
 (meet (fun (g : (List (Int × Int × Int)) × Int × Int × Int × Int × Int × Int) =>
 match g with
 | (data3, a3, length2, modulus2, idx02, other, random2) =>
 (if fits (a3 + other) then (if fits (a3 + other) then (if 0 ≤ (a3 + other) ∧ (a3 + other) < (data3.length : Int) then
 (Option.bind (data3[(a3 + other).toNat]?) fun (e : Int × Int × Int) =>
 (if 0 ≤ idx02 ∧ idx02 < (data3.length : Int) then
 (Option.bind (data3[idx02.toNat]?) fun (e2 : Int × Int × Int) =>
 (if 0 ≤ idx02 ∧ idx02 < (data3.length : Int) then
 (Option.bind (data3[idx02.toNat]?) fun (e3 : Int × Int × Int) =>
 (if 0 ≤ (a3 + other) ∧ (a3 + other) < ((data3.set idx02.toNat e).length : Int) then
 (Option.bind ((data3.set idx02.toNat e)[(a3 + other).toNat]?) fun (e4 : Int × Int × Int) =>
 (if fits (idx02 + 1) then (go (((data3.set idx02.toNat e).set (a3 + other).toNat e2), a3, length2, modulus2, (idx02 + 1), random2)) else none))
 else none))
 else none))
 else none))
 else none) else none) else none)) fun (J : ((List (Int × Int × Int)) × Int × Int × Int × Int × Int × Int) → Option ((List (Int × Int × Int)))) =>
 (bif (decide (length ≤ (IntKind.i64.wrap (bitsI .and .u64 r2.1 (IntKind.u64.wrap (modulus - 1)))))) then
 (if fits ((IntKind.i64.wrap (bitsI .and .u64 r2.1 (IntKind.u64.wrap (modulus - 1)))) - length) then (J (data2, a2, length, modulus, idx0, ((IntKind.i64.wrap (bitsI .and .u64 r2.1 (IntKind.u64.wrap (modulus - 1)))) - length), r2.2)) else none)
 else
 (J (data2, a2, length, modulus, idx0, (IntKind.i64.wrap (bitsI .and .u64 r2.1 (IntKind.u64.wrap (modulus - 1)))), r2.2)))))
 else
 (some data2)) else none) else none) else none) else none)
 else none)) N (data, a, (b - a), r, ((a + (((b - a).tdiv 4) * 2)) - 1), (IntKind.u64.wrap (b - a)))) else none) else none) else none) else none)
 else none))
 else
 (some data)) else none)
def k_slices_breakPatternsCmpFunc_393_M (N : Nat) : Model := ⟨k_slices_breakPatternsCmpFunc_393_arg, k_slices_breakPatternsCmpFunc_393_ret, fun a => k_slices_breakPatternsCmpFunc_393_m N a.1 a.2.1 a.2.2.1 a.2.2.2⟩
set_option maxRecDepth 1000000 in
theorem k_slices_breakPatternsCmpFunc_393_ok (N : Nat) : ModelOk Try.prog 91 (k_slices_breakPatternsCmpFunc_393_M N) :=
  modelOk_of (E := mkEnv [(79, k_slices_nextPowerOfTwo_M N), (80, k__slices_xorshift_Next_M N)] [] [800000]) (mkEnv_ok (fnsOk_cons (k_slices_nextPowerOfTwo_ok N) (fnsOk_cons (k__slices_xorshift_Next_ok N) fnsOk_nil)) _ _) Try.func91 (by kernel_rfl) rfl N k_slices_breakPatternsCmpFunc_393_h (k_slices_breakPatternsCmpFunc_393_M N) (by kernel_rfl) (by kernel_rfl) (fun a => by kernel_rfl)
/-! slices.order2CmpFunc[loop.example/fossick/impl.Point] -/
def k_slices_order2CmpFunc_48_arg : Sh := ⟨[.mtk 800000 (.pair (.int .i64) (.pair (.int .i64) (.int .i64))) 36 true, .pv (.int .i64), .pv (.int .i64), .box 900003 0, .clo 85 [.ptr (.int .i64)]], [(900003, false, [.pv (.int .i64)])]⟩
def k_slices_order2CmpFunc_48_ret : Sh := ⟨[.tup [.pv (.int .i64), .pv (.int .i64)], .mtk 800000 (.pair (.int .i64) (.pair (.int .i64) (.int .i64))) 36 true], [(900003, false, [.pv (.int .i64)])]⟩
def k_slices_order2CmpFunc_48_h : Hint := .no
def k_slices_order2CmpFunc_48_m (N : Nat) (data : List (Int × Int × Int)) (a : Int) (b : Int) (cmp : Int) (b2 : Int) : Option (Int × Int × (List (Int × Int × Int)) × Int) :=
 (if 0 ≤ b ∧ b < (data.length : Int) then
 (Option.bind (data[b.toNat]?) fun (e : Int × Int × Int) =>
 (if 0 ≤ a ∧ a < (data.length : Int) then
 (Option.bind (data[a.toNat]?) fun (e2 : Int × Int × Int) =>
 (Option.bind (i_byAxis_1_m N e.1 e.2.1 e.2.2 e2.1 e2.2.1 e2.2.2 cmp) fun (r : Int) =>
 (bif (decide (r < 0)) then
 (if fits (b2 + 1) then (some (b, a, data, (b2 + 1))) else none)
 else
 (some (a, b, data, b2)))))
 else none))
 else none)
def k_slices_order2CmpFunc_48_M (N : Nat) : Model := ⟨k_slices_order2CmpFunc_48_arg, k_slices_order2CmpFunc_48_ret, fun a => k_slices_order2CmpFunc_48_m N a.1 a.2.1 a.2.2.1 a.2.2.2.1 a.2.2.2.2⟩
set_option maxRecDepth 1000000 in
theorem k_slices_order2CmpFunc_48_ok (N : Nat) : ModelOk Try.prog 100 (k_slices_order2CmpFunc_48_M N) :=
  modelOk_of (E := mkEnv [(85, i_byAxis_1_M N)] [] [900003, 800000]) (mkEnv_ok (fnsOk_cons (i_byAxis_1_ok N) fnsOk_nil) _ _) Try.func100 (by kernel_rfl) rfl N k_slices_order2CmpFunc_48_h (k_slices_order2CmpFunc_48_M N) (by kernel_rfl) (by kernel_rfl) (fun a => by kernel_rfl)
/-! slices.medianCmpFunc[loop.example/fossick/impl.Point] -/
def k_slices_medianCmpFunc_94_arg : Sh := ⟨[.mtk 800000 (.pair (.int .i64) (.pair (.int .i64) (.int .i64))) 36 true, .pv (.int .i64), .pv (.int .i64), .pv (.int .i64), .box 900004 0, .clo 85 [.ptr (.int .i64)]], [(900004, false, [.pv (.int .i64)])]⟩
def k_slices_medianCmpFunc_94_ret : Sh := ⟨[.pv (.int .i64), .mtk 800000 (.pair (.int .i64) (.pair (.int .i64) (.int .i64))) 36 true], [(900004, false, [.pv (.int .i64)])]⟩
def k_slices_medianCmpFunc_94_h : Hint := .no
def k_slices_medianCmpFunc_94_m (N : Nat) (data : List (Int × Int × Int)) (a : Int) (b : Int) (c : Int) (cmp : Int) (b2 : Int) : Option (Int × (List (Int × Int × Int)) × Int) :=
 (Option.bind (k_slices_order2CmpFunc_48_m N data a b cmp b2) fun (r : Int × Int × (List (Int × Int × Int)) × Int) =>
 (Option.bind (k_slices_order2CmpFunc_48_m N r.2.2.1 r.2.1 c cmp r.2.2.2) fun (r2 : Int × Int × (List (Int × Int × Int)) × Int) =>
 (Option.bind (k_slices_order2CmpFunc_48_m N r2.2.2.1 r.1 r2.1 cmp r2.2.2.2) fun (r3 : Int × Int × (List (Int × Int × Int)) × Int) =>
 (some (r3.2.1, r3.2.2.1, r3.2.2.2)))))
def k_slices_medianCmpFunc_94_M (N : Nat) : Model := ⟨k_slices_medianCmpFunc_94_arg, k_slices_medianCmpFunc_94_ret, fun a => k_slices_medianCmpFunc_94_m N a.1 a.2.1 a.2.2.1 a.2.2.2.1 a.2.2.2.2.1 a.2.2.2.2.2⟩
set_option maxRecDepth 1000000 in
theorem k_slices_medianCmpFunc_94_ok (N : Nat) : ModelOk Try.prog 99 (k_slices_medianCmpFunc_94_M N) :=
  modelOk_of (E := mkEnv [(100, k_slices_order2CmpFunc_48_M N)] [] [900004, 800000]) (mkEnv_ok (fnsOk_cons (k_slices_order2CmpFunc_48_ok N) fnsOk_nil) _ _) Try.func99 (by kernel_rfl) rfl N k_slices_medianCmpFunc_94_h (k_slices_medianCmpFunc_94_M N) (by kernel_rfl) (by kernel_rfl) (fun a => by kernel_rfl)
/-! slices.medianAdjacentCmpFunc[loop.example/fossick/impl.Point] -/
def k_slices_medianAdjacentCmpFunc_624_arg : Sh := ⟨[.mtk 800000 (.pair (.int .i64) (.pair (.int .i64) (.int .i64))) 36 true, .pv (.int .i64), .box 900002 0, .clo 85 [.ptr (.int .i64)]], [(900002, false, [.pv (.int .i64)])]⟩
def k_slices_medianAdjacentCmpFunc_624_ret : Sh := ⟨[.pv (.int .i64), .mtk 800000 (.pair (.int .i64) (.pair (.int .i64) (.int .i64))) 36 true], [(900002, false, [.pv (.int .i64)])]⟩
def k_slices_medianAdjacentCmpFunc_624_h : Hint := .no
def k_slices_medianAdjacentCmpFunc_624_m (N : Nat) (data : List (Int × Int × Int)) (a : Int) (cmp : Int) (b : Int) : Option (Int × (List (Int × Int × Int)) × Int) :=
 (if fits (a - 1) then (if fits (a + 1) then (Option.bind (k_slices_medianCmpFunc_94_m N data (a - 1) a (a + 1) cmp b) fun (r : Int × (List (Int × Int × Int)) × Int) =>
 (some (r.1, r.2.1, r.2.2))) else none) else none)
def k_slices_medianAdjacentCmpFunc_624_M (N : Nat) : Model := ⟨k_slices_medianAdjacentCmpFunc_624_arg, k_slices_medianAdjacentCmpFunc_624_ret, fun a => k_slices_medianAdjacentCmpFunc_624_m N a.1 a.2.1 a.2.2.1 a.2.2.2⟩
set_option maxRecDepth 1000000 in
theorem k_slices_medianAdjacentCmpFunc_624_ok (N : Nat) : ModelOk Try.prog 98 (k_slices_medianAdjacentCmpFunc_624_M N) :=
  modelOk_of (E := mkEnv [(99, k_slices_medianCmpFunc_94_M N)] [] [900002, 800000]) (mkEnv_ok (fnsOk_cons (k_slices_medianCmpFunc_94_ok N) fnsOk_nil) _ _) Try.func98 (by kernel_rfl) rfl N k_slices_medianAdjacentCmpFunc_624_h (k_slices_medianAdjacentCmpFunc_624_M N) (by kernel_rfl) (by kernel_rfl) (fun a => by kernel_rfl)
/-! slices.choosePivotCmpFunc[loop.example/fossick/impl.Point] -/
def k_slices_choosePivotCmpFunc_455_arg : Sh := ⟨[.mtk 800000 (.pair (.int .i64) (.pair (.int .i64) (.int .i64))) 36 true, .pv (.int .i64), .pv (.int .i64), .clo 85 [.ptr (.int .i64)]], []⟩
def k_slices_choosePivotCmpFunc_455_ret : Sh := ⟨[.tup [.pv (.int .i64), .pv (.int .i64)], .mtk 800000 (.pair (.int .i64) (.pair (.int .i64) (.int .i64))) 36 true], []⟩
def k_slices_choosePivotCmpFunc_455_s1 : Sh := ⟨[.mtk 800000 (.pair (.int .i64) (.pair (.int .i64) (.int .i64))) 36 true, .dead, .dead, .clo 85 [.ptr (.int .i64)], .dead, .dead, .dead, .dead, .dead, .dead, .dead, .box 11 0, .pv (.int .i64), .pv (.int .i64), .pv (.int .i64), .dead, .dead, .dead, .dead, .dead, .dead, .dead, .dead, .dead, .dead, .dead, .dead, .dead, .dead, .dead, .dead, .dead, .dead, .dead, .dead, .dead, .dead, .dead, .dead, .dead, .dead, .dead, .dead, .dead, .dead, .dead, .dead, .dead, .dead, .dead, .dead, .dead, .dead, .dead, .dead, .dead, .dead, .dead, .dead, .dead, .dead, .dead, .dead], [(11, false, [.pv (.int .i64)])]⟩
def k_slices_choosePivotCmpFunc_455_s2 : Sh := ⟨[.mtk 800000 (.pair (.int .i64) (.pair (.int .i64) (.int .i64))) 36 true, .dead, .dead, .dead, .dead, .dead, .dead, .dead, .dead, .dead, .dead, .box 11 0, .dead, .pv (.int .i64), .dead, .dead, .dead, .dead, .dead, .dead, .dead, .dead, .dead, .dead, .dead, .dead, .dead, .dead, .dead, .dead, .dead, .dead, .dead, .dead, .dead, .dead, .dead, .dead, .dead, .dead, .dead, .dead, .dead, .dead, .dead, .dead, .dead, .dead, .dead, .dead, .dead, .dead, .dead, .dead, .dead, .dead, .dead, .dead, .dead, .dead, .dead, .dead, .dead], [(11, false, [.pv (.int .i64)])]⟩
def k_slices_choosePivotCmpFunc_455_h : Hint := (.seq .no (.seq .no (.seq .no (.seq .no (.seq .no (.seq .no (.meet k_slices_choosePivotCmpFunc_455_s2 (.seq .no (.cond (.meet k_slices_choosePivotCmpFunc_455_s1 .no .no) .no)) .no)))))))
def k_slices_choosePivotCmpFunc_455_m (N : Nat) (data : List (Int × Int × Int)) (a : Int) (b : Int) (cmp : Int) : Option (Int × Int × (List (Int × Int × Int))) :=
 (if fits (b - a) then (if 4 ≠ 0 then
 (if fits ((b - a).tdiv 4) then (if fits (((b - a).tdiv 4) * 1) then (if fits (a + (((b - a).tdiv 4) * 1)) then (if 4 ≠ 0 then
 (if fits ((b - a).tdiv 4) then (if fits (((b - a).tdiv 4) * 2) then (if fits (a + (((b - a).tdiv 4) * 2)) then (if 4 ≠ 0 then
 (if fits ((b - a).tdiv 4) then (if fits (((b - a).tdiv 4) * 3) then (if fits (a + (((b - a).tdiv 4) * 3)) then (meet (fun (g : (List (Int × Int × Int)) × Int × Int) =>
 match g with
 | (data3, j2, swaps2) =>
 (bif (decide (swaps2 = 0)) then
 (some (j2, 1, data3))
 else
 (bif (decide (swaps2 = 12)) then
 (some (j2, 2, data3))
 else
 (some (j2, 0, data3))))) fun (J : ((List (Int × Int × Int)) × Int × Int) → Option (Int × Int × (List (Int × Int × Int)))) =>
 (bif (decide ((8 : Int) ≤ (b - a))) then
 (meet (fun (g : (List (Int × Int × Int)) × Int × Int × Int × Int × Int) =>
 match g with
 | (data2, cmp2, i, j, k, swaps) =>
 (Option.bind (k_slices_medianCmpFunc_94_m N data2 i j k cmp2 swaps) fun (r4 : Int × (List (Int × Int × Int)) × Int) =>
 (J (r4.2.1, r4.1, r4.2.2)))) fun (J2 : ((List (Int × Int × Int)) × Int × Int × Int × Int × Int) → Option (Int × Int × (List (Int × Int × Int)))) =>
 (bif (decide ((50 : Int) ≤ (b - a))) then
 (Option.bind (k_slices_medianAdjacentCmpFunc_624_m N data (a + (((b - a).tdiv 4) * 1)) cmp 0) fun (r : Int × (List (Int × Int × Int)) × Int) =>
 (Option.bind (k_slices_medianAdjacentCmpFunc_624_m N r.2.1 (a + (((b - a).tdiv 4) * 2)) cmp r.2.2) fun (r2 : Int × (List (Int × Int × Int)) × Int) =>
 (Option.bind (k_slices_medianAdjacentCmpFunc_624_m N r2.2.1 (a + (((b - a).tdiv 4) * 3)) cmp r2.2.2) fun (r3 : Int × (List (Int × Int × Int)) × Int) =>
 (J2 (r3.2.1, cmp, r.1, r2.1, r3.1, r3.2.2)))))
 else
 (J2 (data, cmp, (a + (((b - a).tdiv 4) * 1)), (a + (((b - a).tdiv 4) * 2)), (a + (((b - a).tdiv 4) * 3)), 0))))
 else
 (J (data, (a + (((b - a).tdiv 4) * 2)), 0)))) else none) else none) else none)
 else none) else none) else none) else none)
 else none) else none) else none) else none)
 else none) else none)
def k_slices_choosePivotCmpFunc_455_M (N : Nat) : Model := ⟨k_slices_choosePivotCmpFunc_455_arg, k_slices_choosePivotCmpFunc_455_ret, fun a => k_slices_choosePivotCmpFunc_455_m N a.1 a.2.1 a.2.2.1 a.2.2.2⟩
set_option maxRecDepth 1000000 in
theorem k_slices_choosePivotCmpFunc_455_ok (N : Nat) : ModelOk Try.prog 92 (k_slices_choosePivotCmpFunc_455_M N) :=
  modelOk_of (E := mkEnv [(98, k_slices_medianAdjacentCmpFunc_624_M N), (99, k_slices_medianCmpFunc_94_M N)] [] [800000]) (mkEnv_ok (fnsOk_cons (k_slices_medianAdjacentCmpFunc_624_ok N) (fnsOk_cons (k_slices_medianCmpFunc_94_ok N) fnsOk_nil)) _ _) Try.func92 (by kernel_rfl) rfl N k_slices_choosePivotCmpFunc_455_h (k_slices_choosePivotCmpFunc_455_M N) (by kernel_rfl) (by kernel_rfl) (fun a => by kernel_rfl)
/-! slices.reverseRangeCmpFunc[loop.example/fossick/impl.Point] -/
def k_slices_reverseRangeCmpFunc_484_arg : Sh := ⟨[.mtk 800000 (.pair (.int .i64) (.pair (.int .i64) (.int .i64))) 36 true, .pv (.int .i64), .pv (.int .i64), .clo 85 [.ptr (.int .i64)]], []⟩
def k_slices_reverseRangeCmpFunc_484_ret : Sh := ⟨[.tup [], .mtk 800000 (.pair (.int .i64) (.pair (.int .i64) (.int .i64))) 36 true], []⟩
def k_slices_reverseRangeCmpFunc_484_s1 : Sh := ⟨[.mtk 800000 (.pair (.int .i64) (.pair (.int .i64) (.int .i64))) 36 true, .dead, .dead, .dead, .dead, .dead, .dead, .dead, .pv (.int .i64), .pv (.int .i64), .dead, .dead, .dead, .dead, .dead, .dead, .dead, .dead, .dead, .dead, .dead, .dead, .dead, .dead, .dead, .dead, .dead, .dead, .dead, .dead, .dead, .dead, .dead, .dead], []⟩
def k_slices_reverseRangeCmpFunc_484_h : Hint := (.seq .no (.seq .no (.block (.loop k_slices_reverseRangeCmpFunc_484_s1 .no))))
def k_slices_reverseRangeCmpFunc_484_m (N : Nat) (data : List (Int × Int × Int)) (a : Int) (b : Int) (cmp : Int) : Option ((List (Int × Int × Int))) :=
 (if fits (b - 1) then (iter (fun (go : ((List (Int × Int × Int)) × Int × Int) → Option ((List (Int × Int × Int)))) (g : (List (Int × Int × Int)) × Int × Int) =>
 match g with
 | (data2, i, j) =>
 (bif (decide (i < j)) then
 (if 0 ≤ j ∧ j < (data2.length : Int) then
 (Option.bind (data2[j.toNat]?) fun (e : Int × Int × Int) =>
 (if 0 ≤ i ∧ i < (data2.length : Int) then
 (Option.bind (data2[i.toNat]?) fun (e2 : Int × Int × Int) =>
 (if 0 ≤ i ∧ i < (data2.length : Int) then
 (Option.bind (data2[i.toNat]?) fun (e3 : Int × Int × Int) =>
 (if 0 ≤ j ∧ j < ((data2.set i.toNat e).length : Int) then
 (Option.bind ((data2.set i.toNat e)[j.toNat]?) fun (e4 : Int × Int × Int) =>
 (if fits (i + 1) then (if fits (j - 1) then (go (((data2.set i.toNat e).set j.toNat e2), (i + 1), (j - 1))) else none) else none))
 else none))
 else none))
 else none))
 else none)
 else
 (some data2))) N (data, a, (b - 1))) else none)
def k_slices_reverseRangeCmpFunc_484_M (N : Nat) : Model := ⟨k_slices_reverseRangeCmpFunc_484_arg, k_slices_reverseRangeCmpFunc_484_ret, fun a => k_slices_reverseRangeCmpFunc_484_m N a.1 a.2.1 a.2.2.1 a.2.2.2⟩
set_option maxRecDepth 1000000 in
theorem k_slices_reverseRangeCmpFunc_484_ok (N : Nat) : ModelOk Try.prog 93 (k_slices_reverseRangeCmpFunc_484_M N) :=
  modelOk_of (E := mkEnv [] [] [800000]) (mkEnv_ok fnsOk_nil _ _) Try.func93 (by kernel_rfl) rfl N k_slices_reverseRangeCmpFunc_484_h (k_slices_reverseRangeCmpFunc_484_M N) (by kernel_rfl) (by kernel_rfl) (fun a => by kernel_rfl)
/-! slices.partialInsertionSortCmpFunc[loop.example/fossick/impl.Point] -/
def k_slices_partialInsertionSortCmpFunc_645_arg : Sh := ⟨[.mtk 800000 (.pair (.int .i64) (.pair (.int .i64) (.int .i64))) 36 true, .pv (.int .i64), .pv (.int .i64), .clo 85 [.ptr (.int .i64)]], []⟩
def k_slices_partialInsertionSortCmpFunc_645_ret : Sh := ⟨[.pv .bool, .mtk 800000 (.pair (.int .i64) (.pair (.int .i64) (.int .i64))) 36 true], []⟩
def k_slices_partialInsertionSortCmpFunc_645_s1 : Sh := ⟨[.mtk 800000 (.pair (.int .i64) (.pair (.int .i64) (.int .i64))) 36 true, .pv (.int .i64), .pv (.int .i64), .clo 85 [.ptr (.int .i64)], .dead, .dead, .dead, .dead, .dead, .pv (.int .i64), .pv (.int .i64), .dead, .dead, .dead, .dead, .dead, .dead, .dead, .dead, .dead, .dead, .dead, .dead, .dead, .dead, .dead, .dead, .dead, .dead, .dead, .dead, .dead, .dead, .dead, .dead, .dead, .dead, .dead, .dead, .dead, .dead, .dead, .dead, .dead, .dead, .dead, .dead, .dead, .dead, .dead, .dead, .dead, .dead, .dead, .dead, .dead, .dead, .dead, .dead, .dead, .dead, .dead, .dead, .dead, .dead, .dead, .dead, .dead, .dead, .dead, .dead, .dead, .dead, .dead, .dead, .dead, .dead, .dead, .dead, .dead, .dead, .dead, .dead, .dead, .dead, .dead, .dead, .dead, .dead, .dead, .dead, .dead, .dead, .dead, .dead, .dead, .dead, .dead, .dead, .dead, .dead, .dead, .dead, .dead, .dead, .dead, .dead, .dead, .dead, .dead, .dead, .dead, .dead, .dead, .dead, .dead, .dead, .dead, .dead, .dead, .dead, .dead, .dead, .dead, .dead, .dead, .dead, .dead, .dead, .dead, .dead, .dead, .dead, .dead, .dead, .dead, .dead, .dead, .dead, .dead, .dead], []⟩
def k_slices_partialInsertionSortCmpFunc_645_s2 : Sh := ⟨[.mtk 800000 (.pair (.int .i64) (.pair (.int .i64) (.int .i64))) 36 true, .pv (.int .i64), .pv (.int .i64), .clo 85 [.ptr (.int .i64)], .dead, .dead, .dead, .dead, .dead, .pv (.int .i64), .pv (.int .i64), .dead, .dead, .dead, .dead, .dead, .dead, .dead, .dead, .dead, .dead, .dead, .dead, .dead, .dead, .dead, .dead, .dead, .dead, .dead, .dead, .dead, .dead, .dead, .dead, .dead, .dead, .dead, .dead, .dead, .dead, .dead, .dead, .dead, .dead, .dead, .dead, .dead, .dead, .dead, .dead, .dead, .dead, .dead, .dead, .dead, .dead, .dead, .dead, .dead, .dead, .dead, .dead, .dead, .dead, .dead, .dead, .dead, .dead, .dead, .dead, .dead, .dead, .dead, .dead, .dead, .dead, .dead, .dead, .dead, .dead, .dead, .dead, .dead, .dead, .dead, .dead, .dead, .dead, .dead, .dead, .dead, .dead, .dead, .dead, .dead, .dead, .dead, .dead, .dead, .dead, .dead, .dead, .dead, .dead, .dead, .dead, .dead, .dead, .dead, .dead, .dead, .dead, .dead, .dead, .dead, .dead, .dead, .dead, .dead, .dead, .dead, .dead, .dead, .dead, .dead, .dead, .dead, .dead, .dead, .dead, .dead, .dead, .dead, .dead, .dead, .dead, .dead, .dead, .dead, .dead], []⟩
def k_slices_partialInsertionSortCmpFunc_645_s3 : Sh := ⟨[.mtk 800000 (.pair (.int .i64) (.pair (.int .i64) (.int .i64))) 36 true, .pv (.int .i64), .pv (.int .i64), .clo 85 [.ptr (.int .i64)], .dead, .dead, .dead, .dead, .dead, .pv (.int .i64), .pv (.int .i64), .pv (.int .i64), .dead, .dead, .dead, .dead, .dead, .dead, .dead, .dead, .dead, .dead, .dead, .dead, .dead, .dead, .dead, .dead, .dead, .dead, .dead, .dead, .dead, .dead, .dead, .dead, .dead, .dead, .dead, .dead, .dead, .dead, .dead, .dead, .dead, .dead, .dead, .dead, .dead, .dead, .dead, .dead, .dead, .dead, .dead, .dead, .dead, .dead, .dead, .dead, .dead, .dead, .dead, .dead, .dead, .dead, .dead, .dead, .dead, .dead, .dead, .dead, .dead, .dead, .dead, .dead, .dead, .dead, .dead, .dead, .dead, .dead, .dead, .dead, .dead, .dead, .dead, .dead, .dead, .dead, .dead, .dead, .dead, .dead, .dead, .dead, .dead, .dead, .dead, .dead, .dead, .dead, .dead, .dead, .dead, .dead, .dead, .dead, .dead, .dead, .dead, .dead, .dead, .dead, .dead, .dead, .dead, .dead, .dead, .dead, .dead, .dead, .dead, .dead, .dead, .dead, .dead, .dead, .dead, .dead, .dead, .dead, .dead, .dead, .dead, .dead, .dead, .dead, .dead, .dead, .dead], []⟩
def k_slices_partialInsertionSortCmpFunc_645_s4 : Sh := ⟨[.mtk 800000 (.pair (.int .i64) (.pair (.int .i64) (.int .i64))) 36 true, .pv (.int .i64), .pv (.int .i64), .clo 85 [.ptr (.int .i64)], .dead, .dead, .dead, .dead, .dead, .pv (.int .i64), .pv (.int .i64), .dead, .pv (.int .i64), .dead, .dead, .dead, .dead, .dead, .dead, .dead, .dead, .dead, .dead, .dead, .dead, .dead, .dead, .dead, .dead, .dead, .dead, .dead, .dead, .dead, .dead, .dead, .dead, .dead, .dead, .dead, .dead, .dead, .dead, .dead, .dead, .dead, .dead, .dead, .dead, .dead, .dead, .dead, .dead, .dead, .dead, .dead, .dead, .dead, .dead, .dead, .dead, .dead, .dead, .dead, .dead, .dead, .dead, .dead, .dead, .dead, .dead, .dead, .dead, .dead, .dead, .dead, .dead, .dead, .dead, .dead, .dead, .dead, .dead, .dead, .dead, .dead, .dead, .dead, .dead, .dead, .dead, .dead, .dead, .dead, .dead, .dead, .dead, .dead, .dead, .dead, .dead, .dead, .dead, .dead, .dead, .dead, .dead, .dead, .dead, .dead, .dead, .dead, .dead, .dead, .dead, .dead, .dead, .dead, .dead, .dead, .dead, .dead, .dead, .dead, .dead, .dead, .dead, .dead, .dead, .dead, .dead, .dead, .dead, .dead, .dead, .dead, .dead, .dead, .dead, .dead, .dead], []⟩
def k_slices_partialInsertionSortCmpFunc_645_s5 : Sh := ⟨[.mtk 800000 (.pair (.int .i64) (.pair (.int .i64) (.int .i64))) 36 true, .pv (.int .i64), .pv (.int .i64), .clo 85 [.ptr (.int .i64)], .dead, .dead, .dead, .dead, .dead, .pv (.int .i64), .pv (.int .i64), .dead, .dead, .dead, .dead, .dead, .dead, .dead, .dead, .dead, .dead, .dead, .dead, .dead, .dead, .dead, .dead, .dead, .dead, .dead, .dead, .dead, .dead, .dead, .dead, .dead, .dead, .dead, .dead, .dead, .dead, .dead, .dead, .dead, .dead, .dead, .dead, .dead, .dead, .dead, .dead, .dead, .dead, .dead, .dead, .dead, .dead, .dead, .dead, .dead, .dead, .dead, .dead, .dead, .dead, .dead, .dead, .dead, .dead, .dead, .dead, .dead, .dead, .dead, .dead, .dead, .dead, .dead, .dead, .dead, .dead, .dead, .dead, .dead, .dead, .dead, .dead, .dead, .dead, .dead, .dead, .dead, .dead, .dead, .dead, .dead, .dead, .dead, .dead, .dead, .dead, .dead, .dead, .dead, .dead, .dead, .dead, .dead, .dead, .dead, .dead, .dead, .dead, .dead, .dead, .dead, .dead, .dead, .dead, .dead, .dead, .dead, .dead, .dead, .dead, .dead, .dead, .dead, .dead, .dead, .dead, .dead, .dead, .dead, .dead, .dead, .dead, .dead, .dead, .dead, .dead], []⟩
def k_slices_partialInsertionSortCmpFunc_645_h : Hint := (.seq .no (.seq .no (.seq (.seq .no (.block (.loop k_slices_partialInsertionSortCmpFunc_645_s1 (.seq .no (.seq (.block (.seq (.block (.loop k_slices_partialInsertionSortCmpFunc_645_s2 .no)) (.seq .no (.seq .no (.seq .no (.meet k_slices_partialInsertionSortCmpFunc_645_s5 (.seq .no (.cond (.seq .no (.block (.loop k_slices_partialInsertionSortCmpFunc_645_s3 .no))) .no)) (.seq .no (.cond (.seq .no (.block (.loop k_slices_partialInsertionSortCmpFunc_645_s4 .no))) .no)))))))) .no))))) .no)))
def k_slices_partialInsertionSortCmpFunc_645_m (N : Nat) (data : List (Int × Int × Int)) (a : Int) (b : Int) (cmp : Int) : Option (Bool × (List (Int × Int × Int))) :=
 (if fits (a + 1) then (iter (fun (go : ((List (Int × Int × Int)) × Int × Int × Int × Int × Int) → Option (Bool × (List (Int × Int × Int)))) (g : (List (Int × Int × Int)) × Int × Int × Int × Int × Int) =>
 match g with
 | (data2, a2, b2, cmp2, i, j) =>
 (bif (decide (j < 5)) then
 (iter (fun (go2 : ((List (Int × Int × Int)) × Int × Int × Int × Int × Int) → Option (Bool × (List (Int × Int × Int)))) (g : (List (Int × Int × Int)) × Int × Int × Int × Int × Int) =>
 match g with
 | (data3, a3, b3, cmp3, i2, j2) =>
 (bif (decide (i2 < b3)) then
 (if 0 ≤ i2 ∧ i2 < (data3.length : Int) then
 (Option.bind (data3[i2.toNat]?) fun (e : Int × Int × Int) =>
 (if fits (i2 - 1) then (if 0 ≤ (i2 - 1) ∧ (i2 - 1) < (data3.length : Int) then
 (Option.bind (data3[(i2 - 1).toNat]?) fun (e2 : Int × Int × Int) =>
 (Option.bind (i_byAxis_1_m N e.1 e.2.1 e.2.2 e2.1 e2.2.1 e2.2.2 cmp3) fun (r : Int) =>
 (bif (!(decide (r < 0))) then
 (if fits (i2 + 1) then (go2 (data3, a3, b3, cmp3, (i2 + 1), j2)) else none)
 else
 (bif (decide (i2 = b3)) then
 (some (true, data3))
 else
 (if fits (b3 - a3) then (bif (decide ((b3 - a3) < 50)) then
 (some (false, data3))
 else
 (if fits (i2 - 1) then (if fits (i2 - 1) then (if 0 ≤ (i2 - 1) ∧ (i2 - 1) < (data3.length : Int) then
 (Option.bind (data3[(i2 - 1).toNat]?) fun (e3 : Int × Int × Int) =>
 (if 0 ≤ i2 ∧ i2 < (data3.length : Int) then
 (Option.bind (data3[i2.toNat]?) fun (e4 : Int × Int × Int) =>
 (if 0 ≤ i2 ∧ i2 < (data3.length : Int) then
 (Option.bind (data3[i2.toNat]?) fun (e5 : Int × Int × Int) =>
 (if 0 ≤ (i2 - 1) ∧ (i2 - 1) < ((data3.set i2.toNat e3).length : Int) then
 (Option.bind ((data3.set i2.toNat e3)[(i2 - 1).toNat]?) fun (e6 : Int × Int × Int) =>
 (meet (fun (g : (List (Int × Int × Int)) × Int × Int × Int × Int × Int) =>
 match g with
 | (data5, a5, b5, cmp5, i4, j5) =>
 (if fits (b5 - i4) then (bif (decide ((2 : Int) ≤ (b5 - i4))) then
 (if fits (i4 + 1) then (iter (fun (go4 : ((List (Int × Int × Int)) × Int × Int × Int × Int × Int × Int) → Option (Bool × (List (Int × Int × Int)))) (g : (List (Int × Int × Int)) × Int × Int × Int × Int × Int × Int) =>
 match g with
 | (data6, a6, b6, cmp6, i5, j6, j7) =>
 (bif (decide (j7 < b6)) then
 (if 0 ≤ j7 ∧ j7 < (data6.length : Int) then
 (Option.bind (data6[j7.toNat]?) fun (e13 : Int × Int × Int) =>
 (if fits (j7 - 1) then (if 0 ≤ (j7 - 1) ∧ (j7 - 1) < (data6.length : Int) then
 (Option.bind (data6[(j7 - 1).toNat]?) fun (e14 : Int × Int × Int) =>
 (Option.bind (i_byAxis_1_m N e13.1 e13.2.1 e13.2.2 e14.1 e14.2.1 e14.2.2 cmp6) fun (r3 : Int) =>
 (bif (!(decide (r3 < 0))) then
 (if fits (j6 + 1) then (go (data6, a6, b6, cmp6, i5, (j6 + 1))) else none)
 else
 (if fits (j7 - 1) then (if fits (j7 - 1) then (if 0 ≤ (j7 - 1) ∧ (j7 - 1) < (data6.length : Int) then
 (Option.bind (data6[(j7 - 1).toNat]?) fun (e15 : Int × Int × Int) =>
 (if 0 ≤ j7 ∧ j7 < (data6.length : Int) then
 (Option.bind (data6[j7.toNat]?) fun (e16 : Int × Int × Int) =>
 (if 0 ≤ j7 ∧ j7 < (data6.length : Int) then
 (Option.bind (data6[j7.toNat]?) fun (e17 : Int × Int × Int) =>
 (if 0 ≤ (j7 - 1) ∧ (j7 - 1) < ((data6.set j7.toNat e15).length : Int) then
 (Option.bind ((data6.set j7.toNat e15)[(j7 - 1).toNat]?) fun (e18 : Int × Int × Int) =>
 (if fits (j7 + 1) then (go4 (((data6.set j7.toNat e15).set (j7 - 1).toNat e16), a6, b6, cmp6, i5, j6, (j7 + 1))) else none))
 else none))
 else none))
 else none))
 else none) else none) else none))))
 else none) else none))
 else none)
 else
 (if fits (j6 + 1) then (go (data6, a6, b6, cmp6, i5, (j6 + 1))) else none))) N (data5, a5, b5, cmp5, i4, j5, (i4 + 1))) else none)
 else
 (if fits (j5 + 1) then (go (data5, a5, b5, cmp5, i4, (j5 + 1))) else none)) else none)) fun (J : ((List (Int × Int × Int)) × Int × Int × Int × Int × Int) → Option (Bool × (List (Int × Int × Int)))) =>
 (if fits (i2 - a3) then (bif (decide ((2 : Int) ≤ (i2 - a3))) then
 (if fits (i2 - 1) then (iter (fun (go3 : ((List (Int × Int × Int)) × Int × Int × Int × Int × Int × Int) → Option (Bool × (List (Int × Int × Int)))) (g : (List (Int × Int × Int)) × Int × Int × Int × Int × Int × Int) =>
 match g with
 | (data4, a4, b4, cmp4, i3, j3, j4) =>
 (bif (decide ((1 : Int) ≤ j4)) then
 (if 0 ≤ j4 ∧ j4 < (data4.length : Int) then
 (Option.bind (data4[j4.toNat]?) fun (e7 : Int × Int × Int) =>
 (if fits (j4 - 1) then (if 0 ≤ (j4 - 1) ∧ (j4 - 1) < (data4.length : Int) then
 (Option.bind (data4[(j4 - 1).toNat]?) fun (e8 : Int × Int × Int) =>
 (Option.bind (i_byAxis_1_m N e7.1 e7.2.1 e7.2.2 e8.1 e8.2.1 e8.2.2 cmp4) fun (r2 : Int) =>
 (bif (!(decide (r2 < 0))) then
 (J (data4, a4, b4, cmp4, i3, j3))
 else
 (if fits (j4 - 1) then (if fits (j4 - 1) then (if 0 ≤ (j4 - 1) ∧ (j4 - 1) < (data4.length : Int) then
 (Option.bind (data4[(j4 - 1).toNat]?) fun (e9 : Int × Int × Int) =>
 (if 0 ≤ j4 ∧ j4 < (data4.length : Int) then
 (Option.bind (data4[j4.toNat]?) fun (e10 : Int × Int × Int) =>
 (if 0 ≤ j4 ∧ j4 < (data4.length : Int) then
 (Option.bind (data4[j4.toNat]?) fun (e11 : Int × Int × Int) =>
 (if 0 ≤ (j4 - 1) ∧ (j4 - 1) < ((data4.set j4.toNat e9).length : Int) then
 (Option.bind ((data4.set j4.toNat e9)[(j4 - 1).toNat]?) fun (e12 : Int × Int × Int) =>
 (if fits (j4 - 1) then (go3 (((data4.set j4.toNat e9).set (j4 - 1).toNat e10), a4, b4, cmp4, i3, j3, (j4 - 1))) else none))
 else none))
 else none))
 else none))
 else none) else none) else none))))
 else none) else none))
 else none)
 else
 (J (data4, a4, b4, cmp4, i3, j3)))) N (((data3.set i2.toNat e3).set (i2 - 1).toNat e4), a3, b3, cmp3, i2, j2, (i2 - 1))) else none)
 else
 (J (((data3.set i2.toNat e3).set (i2 - 1).toNat e4), a3, b3, cmp3, i2, j2))) else none)))
 else none))
 else none))
 else none))
 else none) else none) else none)) else none)))))
 else none) else none))
 else none)
 else
 (bif (decide (i2 = b3)) then
 (some (true, data3))
 else
 (if fits (b3 - a3) then (bif (decide ((b3 - a3) < 50)) then
 (some (false, data3))
 else
 (if fits (i2 - 1) then (if fits (i2 - 1) then (if 0 ≤ (i2 - 1) ∧ (i2 - 1) < (data3.length : Int) then
 (Option.bind (data3[(i2 - 1).toNat]?) fun (e19 : Int × Int × Int) =>
 (if 0 ≤ i2 ∧ i2 < (data3.length : Int) then
 (Option.bind (data3[i2.toNat]?) fun (e20 : Int × Int × Int) =>
 (if 0 ≤ i2 ∧ i2 < (data3.length : Int) then
 (Option.bind (data3[i2.toNat]?) fun (e21 : Int × Int × Int) =>
 (if 0 ≤ (i2 - 1) ∧ (i2 - 1) < ((data3.set i2.toNat e19).length : Int) then
 (Option.bind ((data3.set i2.toNat e19)[(i2 - 1).toNat]?) fun (e22 : Int × Int × Int) =>
 (meet (fun (g : (List (Int × Int × Int)) × Int × Int × Int × Int × Int) =>
 match g with
 | (data8, a8, b8, cmp8, i7, j10) =>
 (if fits (b8 - i7) then (bif (decide ((2 : Int) ≤ (b8 - i7))) then
 (if fits (i7 + 1) then (iter (fun (go6 : ((List (Int × Int × Int)) × Int × Int × Int × Int × Int × Int) → Option (Bool × (List (Int × Int × Int)))) (g : (List (Int × Int × Int)) × Int × Int × Int × Int × Int × Int) =>
 match g with
 | (data9, a9, b9, cmp9, i8, j11, j12) =>
 (bif (decide (j12 < b9)) then
 (if 0 ≤ j12 ∧ j12 < (data9.length : Int) then
 (Option.bind (data9[j12.toNat]?) fun (e29 : Int × Int × Int) =>
 (if fits (j12 - 1) then (if 0 ≤ (j12 - 1) ∧ (j12 - 1) < (data9.length : Int) then
 (Option.bind (data9[(j12 - 1).toNat]?) fun (e30 : Int × Int × Int) =>
 (Option.bind (i_byAxis_1_m N e29.1 e29.2.1 e29.2.2 e30.1 e30.2.1 e30.2.2 cmp9) fun (r5 : Int) =>
 (bif (!(decide (r5 < 0))) then
 (if fits (j11 + 1) then (go (data9, a9, b9, cmp9, i8, (j11 + 1))) else none)
 else
 (if fits (j12 - 1) then (if fits (j12 - 1) then (if 0 ≤ (j12 - 1) ∧ (j12 - 1) < (data9.length : Int) then
 (Option.bind (data9[(j12 - 1).toNat]?) fun (e31 : Int × Int × Int) =>
 (if 0 ≤ j12 ∧ j12 < (data9.length : Int) then
 (Option.bind (data9[j12.toNat]?) fun (e32 : Int × Int × Int) =>
 (if 0 ≤ j12 ∧ j12 < (data9.length : Int) then
 (Option.bind (data9[j12.toNat]?) fun (e33 : Int × Int × Int) =>
 (if 0 ≤ (j12 - 1) ∧ (j12 - 1) < ((data9.set j12.toNat e31).length : Int) then
 (Option.bind ((data9.set j12.toNat e31)[(j12 - 1).toNat]?) fun (e34 : Int × Int × Int) =>
 (if fits (j12 + 1) then (go6 (((data9.set j12.toNat e31).set (j12 - 1).toNat e32), a9, b9, cmp9, i8, j11, (j12 + 1))) else none))
 else none))
 else none))
 else none))
 else none) else none) else none))))
 else none) else none))
 else none)
 else
 (if fits (j11 + 1) then (go (data9, a9, b9, cmp9, i8, (j11 + 1))) else none))) N (data8, a8, b8, cmp8, i7, j10, (i7 + 1))) else none)
 else
 (if fits (j10 + 1) then (go (data8, a8, b8, cmp8, i7, (j10 + 1))) else none)) else none)) fun (J2 : ((List (Int × Int × Int)) × Int × Int × Int × Int × Int) → Option (Bool × (List (Int × Int × Int)))) =>
 (if fits (i2 - a3) then (bif (decide ((2 : Int) ≤ (i2 - a3))) then
 (if fits (i2 - 1) then (iter (fun (go5 : ((List (Int × Int × Int)) × Int × Int × Int × Int × Int × Int) → Option (Bool × (List (Int × Int × Int)))) (g : (List (Int × Int × Int)) × Int × Int × Int × Int × Int × Int) =>
 match g with
 | (data7, a7, b7, cmp7, i6, j8, j9) =>
 (bif (decide ((1 : Int) ≤ j9)) then
 (if 0 ≤ j9 ∧ j9 < (data7.length : Int) then
 (Option.bind (data7[j9.toNat]?) fun (e23 : Int × Int × Int) =>
 (if fits (j9 - 1) then (if 0 ≤ (j9 - 1) ∧ (j9 - 1) < (data7.length : Int) then
 (Option.bind (data7[(j9 - 1).toNat]?) fun (e24 : Int × Int × Int) =>
 (Option.bind (i_byAxis_1_m N e23.1 e23.2.1 e23.2.2 e24.1 e24.2.1 e24.2.2 cmp7) fun (r4 : Int) =>
 (bif (!(decide (r4 < 0))) then
 (J2 (data7, a7, b7, cmp7, i6, j8))
 else
 (if fits (j9 - 1) then (if fits (j9 - 1) then (if 0 ≤ (j9 - 1) ∧ (j9 - 1) < (data7.length : Int) then
 (Option.bind (data7[(j9 - 1).toNat]?) fun (e25 : Int × Int × Int) =>
 (if 0 ≤ j9 ∧ j9 < (data7.length : Int) then
 (Option.bind (data7[j9.toNat]?) fun (e26 : Int × Int × Int) =>
 (if 0 ≤ j9 ∧ j9 < (data7.length : Int) then
 (Option.bind (data7[j9.toNat]?) fun (e27 : Int × Int × Int) =>
 (if 0 ≤ (j9 - 1) ∧ (j9 - 1) < ((data7.set j9.toNat e25).length : Int) then
 (Option.bind ((data7.set j9.toNat e25)[(j9 - 1).toNat]?) fun (e28 : Int × Int × Int) =>
 (if fits (j9 - 1) then (go5 (((data7.set j9.toNat e25).set (j9 - 1).toNat e26), a7, b7, cmp7, i6, j8, (j9 - 1))) else none))
 else none))
 else none))
 else none))
 else none) else none) else none))))
 else none) else none))
 else none)
 else
 (J2 (data7, a7, b7, cmp7, i6, j8)))) N (((data3.set i2.toNat e19).set (i2 - 1).toNat e20), a3, b3, cmp3, i2, j2, (i2 - 1))) else none)
 else
 (J2 (((data3.set i2.toNat e19).set (i2 - 1).toNat e20), a3, b3, cmp3, i2, j2))) else none)))
 else none))
 else none))
 else none))
 else none) else none) else none)) else none)))) N (data2, a2, b2, cmp2, i, j))
 else
 (some (false, data2)))) N (data, a, b, cmp, (a + 1), 0)) else none)
def k_slices_partialInsertionSortCmpFunc_645_M (N : Nat) : Model := ⟨k_slices_partialInsertionSortCmpFunc_645_arg, k_slices_partialInsertionSortCmpFunc_645_ret, fun a => k_slices_partialInsertionSortCmpFunc_645_m N a.1 a.2.1 a.2.2.1 a.2.2.2⟩
set_option maxRecDepth 1000000 in
theorem k_slices_partialInsertionSortCmpFunc_645_ok (N : Nat) : ModelOk Try.prog 94 (k_slices_partialInsertionSortCmpFunc_645_M N) :=
  modelOk_of (E := mkEnv [(85, i_byAxis_1_M N)] [] [800000]) (mkEnv_ok (fnsOk_cons (i_byAxis_1_ok N) fnsOk_nil) _ _) Try.func94 (by kernel_rfl) rfl N k_slices_partialInsertionSortCmpFunc_645_h (k_slices_partialInsertionSortCmpFunc_645_M N) (by kernel_rfl) (by kernel_rfl) (fun a => by kernel_rfl)
/-! slices.partitionEqualCmpFunc[loop.example/fossick/impl.Point] -/
def k_slices_partitionEqualCmpFunc_880_arg : Sh := ⟨[.mtk 800000 (.pair (.int .i64) (.pair (.int .i64) (.int .i64))) 36 true, .pv (.int .i64), .pv (.int .i64), .pv (.int .i64), .clo 85 [.ptr (.int .i64)]], []⟩
def k_slices_partitionEqualCmpFunc_880_ret : Sh := ⟨[.pv (.int .i64), .mtk 800000 (.pair (.int .i64) (.pair (.int .i64) (.int .i64))) 36 true], []⟩
def k_slices_partitionEqualCmpFunc_880_s1 : Sh := ⟨[.mtk 800000 (.pair (.int .i64) (.pair (.int .i64) (.int .i64))) 36 true, .pv (.int .i64), .dead, .dead, .clo 85 [.ptr (.int .i64)], .dead, .dead, .dead, .dead, .dead, .dead, .pv (.int .i64), .pv (.int .i64), .dead, .dead, .dead, .dead, .dead, .dead, .dead, .dead, .dead, .dead, .dead, .dead, .dead, .dead, .dead, .dead, .dead, .dead, .dead, .dead, .dead, .dead, .dead, .dead, .dead, .dead, .dead, .dead, .dead, .dead, .dead, .dead, .dead, .dead, .dead, .dead, .dead, .dead, .dead, .dead, .dead, .dead, .dead, .dead, .dead, .dead, .dead, .dead, .dead, .dead, .dead, .dead, .dead, .dead, .dead, .dead, .dead, .dead, .dead, .dead, .dead, .dead, .dead, .dead, .dead, .dead, .dead, .dead, .dead, .dead, .dead, .dead, .dead, .dead, .dead, .dead, .dead], []⟩
def k_slices_partitionEqualCmpFunc_880_s2 : Sh := ⟨[.mtk 800000 (.pair (.int .i64) (.pair (.int .i64) (.int .i64))) 36 true, .pv (.int .i64), .dead, .dead, .clo 85 [.ptr (.int .i64)], .dead, .dead, .dead, .dead, .dead, .dead, .pv (.int .i64), .pv (.int .i64), .dead, .dead, .dead, .dead, .dead, .dead, .dead, .dead, .dead, .dead, .dead, .dead, .dead, .dead, .dead, .dead, .dead, .dead, .dead, .dead, .dead, .dead, .dead, .dead, .dead, .dead, .dead, .dead, .dead, .dead, .dead, .dead, .dead, .dead, .dead, .dead, .dead, .dead, .dead, .dead, .dead, .dead, .dead, .dead, .dead, .dead, .dead, .dead, .dead, .dead, .dead, .dead, .dead, .dead, .dead, .dead, .dead, .dead, .dead, .dead, .dead, .dead, .dead, .dead, .dead, .dead, .dead, .dead, .dead, .dead, .dead, .dead, .dead, .dead, .dead, .dead, .dead], []⟩
def k_slices_partitionEqualCmpFunc_880_s3 : Sh := ⟨[.mtk 800000 (.pair (.int .i64) (.pair (.int .i64) (.int .i64))) 36 true, .pv (.int .i64), .dead, .dead, .clo 85 [.ptr (.int .i64)], .dead, .dead, .dead, .dead, .dead, .dead, .pv (.int .i64), .pv (.int .i64), .dead, .dead, .dead, .dead, .dead, .dead, .dead, .dead, .dead, .dead, .dead, .dead, .dead, .dead, .dead, .dead, .dead, .dead, .dead, .dead, .dead, .dead, .dead, .dead, .dead, .dead, .dead, .dead, .dead, .dead, .dead, .dead, .dead, .dead, .dead, .dead, .dead, .dead, .dead, .dead, .dead, .dead, .dead, .dead, .dead, .dead, .dead, .dead, .dead, .dead, .dead, .dead, .dead, .dead, .dead, .dead, .dead, .dead, .dead, .dead, .dead, .dead, .dead, .dead, .dead, .dead, .dead, .dead, .dead, .dead, .dead, .dead, .dead, .dead, .dead, .dead, .dead], []⟩
def k_slices_partitionEqualCmpFunc_880_h : Hint := (.seq .no (.seq .no (.seq .no (.seq (.block (.loop k_slices_partitionEqualCmpFunc_880_s1 (.block (.seq (.block (.loop k_slices_partitionEqualCmpFunc_880_s2 .no)) (.seq (.block (.loop k_slices_partitionEqualCmpFunc_880_s3 .no)) .no))))) .no))))
def k_slices_partitionEqualCmpFunc_880_m (N : Nat) (data : List (Int × Int × Int)) (a : Int) (b : Int) (pivot : Int) (cmp : Int) : Option (Int × (List (Int × Int × Int))) :=
 (if 0 ≤ pivot ∧ pivot < (data.length : Int) then
 (Option.bind (data[pivot.toNat]?) fun (e : Int × Int × Int) =>
 (if 0 ≤ a ∧ a < (data.length : Int) then
 (Option.bind (data[a.toNat]?) fun (e2 : Int × Int × Int) =>
 (if 0 ≤ a ∧ a < (data.length : Int) then
 (Option.bind (data[a.toNat]?) fun (e3 : Int × Int × Int) =>
 (if 0 ≤ pivot ∧ pivot < ((data.set a.toNat e).length : Int) then
 (Option.bind ((data.set a.toNat e)[pivot.toNat]?) fun (e4 : Int × Int × Int) =>
 (if fits (a + 1) then (if fits (b - 1) then (iter (fun (go : ((List (Int × Int × Int)) × Int × Int × Int × Int) → Option (Int × (List (Int × Int × Int)))) (g : (List (Int × Int × Int)) × Int × Int × Int × Int) =>
 match g with
 | (data2, a2, cmp2, i, j) =>
 (iter (fun (go2 : ((List (Int × Int × Int)) × Int × Int × Int × Int) → Option (Int × (List (Int × Int × Int)))) (g : (List (Int × Int × Int)) × Int × Int × Int × Int) =>
 match g with
 | (data3, a3, cmp3, i2, j2) =>
 (bif (decide (i2 ≤ j2)) then
 (if 0 ≤ a3 ∧ a3 < (data3.length : Int) then
 (Option.bind (data3[a3.toNat]?) fun (e5 : Int × Int × Int) =>
 (if 0 ≤ i2 ∧ i2 < (data3.length : Int) then
 (Option.bind (data3[i2.toNat]?) fun (e6 : Int × Int × Int) =>
 (Option.bind (i_byAxis_1_m N e5.1 e5.2.1 e5.2.2 e6.1 e6.2.1 e6.2.2 cmp3) fun (r : Int) =>
 (bif (!(decide (r < 0))) then
 (if fits (i2 + 1) then (go2 (data3, a3, cmp3, (i2 + 1), j2)) else none)
 else
 (iter (fun (go3 : ((List (Int × Int × Int)) × Int × Int × Int × Int) → Option (Int × (List (Int × Int × Int)))) (g : (List (Int × Int × Int)) × Int × Int × Int × Int) =>
 match g with
 | (data4, a4, cmp4, i3, j3) =>
 (bif (decide (i3 ≤ j3)) then
 (if 0 ≤ a4 ∧ a4 < (data4.length : Int) then
 (Option.bind (data4[a4.toNat]?) fun (e7 : Int × Int × Int) =>
 (if 0 ≤ j3 ∧ j3 < (data4.length : Int) then
 (Option.bind (data4[j3.toNat]?) fun (e8 : Int × Int × Int) =>
 (Option.bind (i_byAxis_1_m N e7.1 e7.2.1 e7.2.2 e8.1 e8.2.1 e8.2.2 cmp4) fun (r2 : Int) =>
 (bif (decide (r2 < 0)) then
 (if fits (j3 - 1) then (go3 (data4, a4, cmp4, i3, (j3 - 1))) else none)
 else
 (bif (decide (j3 < i3)) then
 (some (i3, data4))
 else
 (if 0 ≤ j3 ∧ j3 < (data4.length : Int) then
 (Option.bind (data4[j3.toNat]?) fun (e9 : Int × Int × Int) =>
 (if 0 ≤ i3 ∧ i3 < (data4.length : Int) then
 (Option.bind (data4[i3.toNat]?) fun (e10 : Int × Int × Int) =>
 (if 0 ≤ i3 ∧ i3 < (data4.length : Int) then
 (Option.bind (data4[i3.toNat]?) fun (e11 : Int × Int × Int) =>
 (if 0 ≤ j3 ∧ j3 < ((data4.set i3.toNat e9).length : Int) then
 (Option.bind ((data4.set i3.toNat e9)[j3.toNat]?) fun (e12 : Int × Int × Int) =>
 (if fits (i3 + 1) then (if fits (j3 - 1) then (go (((data4.set i3.toNat e9).set j3.toNat e10), a4, cmp4, (i3 + 1), (j3 - 1))) else none) else none))
 else none))
 else none))
 else none))
 else none)))))
 else none))
 else none)
 else
 (bif (decide (j3 < i3)) then
 (some (i3, data4))
 else
 (if 0 ≤ j3 ∧ j3 < (data4.length : Int) then
 (Option.bind (data4[j3.toNat]?) fun (e13 : Int × Int × Int) =>
 (if 0 ≤ i3 ∧ i3 < (data4.length : Int) then
 (Option.bind (data4[i3.toNat]?) fun (e14 : Int × Int × Int) =>
 (if 0 ≤ i3 ∧ i3 < (data4.length : Int) then
 (Option.bind (data4[i3.toNat]?) fun (e15 : Int × Int × Int) =>
 (if 0 ≤ j3 ∧ j3 < ((data4.set i3.toNat e13).length : Int) then
 (Option.bind ((data4.set i3.toNat e13)[j3.toNat]?) fun (e16 : Int × Int × Int) =>
 (if fits (i3 + 1) then (if fits (j3 - 1) then (go (((data4.set i3.toNat e13).set j3.toNat e14), a4, cmp4, (i3 + 1), (j3 - 1))) else none) else none))
 else none))
 else none))
 else none))
 else none)))) N (data3, a3, cmp3, i2, j2)))))
 else none))
 else none)
 else
 (iter (fun (go4 : ((List (Int × Int × Int)) × Int × Int × Int × Int) → Option (Int × (List (Int × Int × Int)))) (g : (List (Int × Int × Int)) × Int × Int × Int × Int) =>
 match g with
 | (data5, a5, cmp5, i4, j4) =>
 (bif (decide (i4 ≤ j4)) then
 (if 0 ≤ a5 ∧ a5 < (data5.length : Int) then
 (Option.bind (data5[a5.toNat]?) fun (e17 : Int × Int × Int) =>
 (if 0 ≤ j4 ∧ j4 < (data5.length : Int) then
 (Option.bind (data5[j4.toNat]?) fun (e18 : Int × Int × Int) =>
 (Option.bind (i_byAxis_1_m N e17.1 e17.2.1 e17.2.2 e18.1 e18.2.1 e18.2.2 cmp5) fun (r3 : Int) =>
 (bif (decide (r3 < 0)) then
 (if fits (j4 - 1) then (go4 (data5, a5, cmp5, i4, (j4 - 1))) else none)
 else
 (bif (decide (j4 < i4)) then
 (some (i4, data5))
 else
 (if 0 ≤ j4 ∧ j4 < (data5.length : Int) then
 (Option.bind (data5[j4.toNat]?) fun (e19 : Int × Int × Int) =>
 (if 0 ≤ i4 ∧ i4 < (data5.length : Int) then
 (Option.bind (data5[i4.toNat]?) fun (e20 : Int × Int × Int) =>
 (if 0 ≤ i4 ∧ i4 < (data5.length : Int) then
 (Option.bind (data5[i4.toNat]?) fun (e21 : Int × Int × Int) =>
 (if 0 ≤ j4 ∧ j4 < ((data5.set i4.toNat e19).length : Int) then
 (Option.bind ((data5.set i4.toNat e19)[j4.toNat]?) fun (e22 : Int × Int × Int) =>
 (if fits (i4 + 1) then (if fits (j4 - 1) then (go (((data5.set i4.toNat e19).set j4.toNat e20), a5, cmp5, (i4 + 1), (j4 - 1))) else none) else none))
 else none))
 else none))
 else none))
 else none)))))
 else none))
 else none)
 else
 (bif (decide (j4 < i4)) then
 (some (i4, data5))
 else
 (if 0 ≤ j4 ∧ j4 < (data5.length : Int) then
 (Option.bind (data5[j4.toNat]?) fun (e23 : Int × Int × Int) =>
 (if 0 ≤ i4 ∧ i4 < (data5.length : Int) then
 (Option.bind (data5[i4.toNat]?) fun (e24 : Int × Int × Int) =>
 (if 0 ≤ i4 ∧ i4 < (data5.length : Int) then
 (Option.bind (data5[i4.toNat]?) fun (e25 : Int × Int × Int) =>
 (if 0 ≤ j4 ∧ j4 < ((data5.set i4.toNat e23).length : Int) then
 (Option.bind ((data5.set i4.toNat e23)[j4.toNat]?) fun (e26 : Int × Int × Int) =>
 (if fits (i4 + 1) then (if fits (j4 - 1) then (go (((data5.set i4.toNat e23).set j4.toNat e24), a5, cmp5, (i4 + 1), (j4 - 1))) else none) else none))
 else none))
 else none))
 else none))
 else none)))) N (data3, a3, cmp3, i2, j2)))) N (data2, a2, cmp2, i, j))) N (((data.set a.toNat e).set pivot.toNat e2), a, cmp, (a + 1), (b - 1))) else none) else none))
 else none))
 else none))
 else none))
 else none)
def k_slices_partitionEqualCmpFunc_880_M (N : Nat) : Model := ⟨k_slices_partitionEqualCmpFunc_880_arg, k_slices_partitionEqualCmpFunc_880_ret, fun a => k_slices_partitionEqualCmpFunc_880_m N a.1 a.2.1 a.2.2.1 a.2.2.2.1 a.2.2.2.2⟩
set_option maxRecDepth 1000000 in
theorem k_slices_partitionEqualCmpFunc_880_ok (N : Nat) : ModelOk Try.prog 95 (k_slices_partitionEqualCmpFunc_880_M N) :=
  modelOk_of (E := mkEnv [(85, i_byAxis_1_M N)] [] [800000]) (mkEnv_ok (fnsOk_cons (i_byAxis_1_ok N) fnsOk_nil) _ _) Try.func95 (by kernel_rfl) rfl N k_slices_partitionEqualCmpFunc_880_h (k_slices_partitionEqualCmpFunc_880_M N) (by kernel_rfl) (by kernel_rfl) (fun a => by kernel_rfl)
/-! slices.partitionCmpFunc[loop.example/fossick/impl.Point] -/
def k_slices_partitionCmpFunc_739_arg : Sh := ⟨[.mtk 800000 (.pair (.int .i64) (.pair (.int .i64) (.int .i64))) 36 true, .pv (.int .i64), .pv (.int .i64), .pv (.int .i64), .clo 85 [.ptr (.int .i64)]], []⟩
def k_slices_partitionCmpFunc_739_ret : Sh := ⟨[.tup [.pv (.int .i64), .pv .bool], .mtk 800000 (.pair (.int .i64) (.pair (.int .i64) (.int .i64))) 36 true], []⟩
def k_slices_partitionCmpFunc_739_s1 : Sh := ⟨[.mtk 800000 (.pair (.int .i64) (.pair (.int .i64) (.int .i64))) 36 true, .pv (.int .i64), .dead, .dead, .clo 85 [.ptr (.int .i64)], .dead, .dead, .dead, .dead, .dead, .dead, .dead, .pv (.int .i64), .pv (.int .i64), .dead, .dead, .dead, .dead, .dead, .dead, .dead, .dead, .dead, .dead, .dead, .dead, .dead, .dead, .dead, .dead, .dead, .dead, .dead, .dead, .dead, .dead, .dead, .dead, .dead, .dead, .dead, .dead, .dead, .dead, .dead, .dead, .dead, .dead, .dead, .dead, .dead, .dead, .dead, .dead, .dead, .dead, .dead, .dead, .dead, .dead, .dead, .dead, .dead, .dead, .dead, .dead, .dead, .dead, .dead, .dead, .dead, .dead, .dead, .dead, .dead, .dead, .dead, .dead, .dead, .dead, .dead, .dead, .dead, .dead, .dead, .dead, .dead, .dead, .dead, .dead, .dead, .dead, .dead, .dead, .dead, .dead, .dead, .dead, .dead, .dead, .dead, .dead, .dead, .dead, .dead, .dead, .dead, .dead, .dead, .dead, .dead, .dead, .dead, .dead, .dead, .dead, .dead, .dead, .dead, .dead, .dead, .dead, .dead, .dead, .dead, .dead, .dead, .dead, .dead, .dead, .dead, .dead, .dead, .dead, .dead, .dead, .dead, .dead, .dead, .dead, .dead, .dead, .dead, .dead, .dead, .dead, .dead, .dead, .dead, .dead, .dead, .dead, .dead, .dead, .dead, .dead, .dead, .dead, .dead, .dead, .dead, .dead, .dead, .dead, .dead, .dead, .dead, .dead, .dead, .dead, .dead, .dead, .dead, .dead, .dead, .dead, .dead, .dead], []⟩
def k_slices_partitionCmpFunc_739_s2 : Sh := ⟨[.mtk 800000 (.pair (.int .i64) (.pair (.int .i64) (.int .i64))) 36 true, .pv (.int .i64), .dead, .dead, .clo 85 [.ptr (.int .i64)], .dead, .dead, .dead, .dead, .dead, .dead, .dead, .pv (.int .i64), .pv (.int .i64), .dead, .dead, .dead, .dead, .dead, .dead, .dead, .dead, .dead, .dead, .dead, .dead, .dead, .dead, .dead, .dead, .dead, .dead, .dead, .dead, .dead, .dead, .dead, .dead, .dead, .dead, .dead, .dead, .dead, .dead, .dead, .dead, .dead, .dead, .dead, .dead, .dead, .dead, .dead, .dead, .dead, .dead, .dead, .dead, .dead, .dead, .dead, .dead, .dead, .dead, .dead, .dead, .dead, .dead, .dead, .dead, .dead, .dead, .dead, .dead, .dead, .dead, .dead, .dead, .dead, .dead, .dead, .dead, .dead, .dead, .dead, .dead, .dead, .dead, .dead, .dead, .dead, .dead, .dead, .dead, .dead, .dead, .dead, .dead, .dead, .dead, .dead, .dead, .dead, .dead, .dead, .dead, .dead, .dead, .dead, .dead, .dead, .dead, .dead, .dead, .dead, .dead, .dead, .dead, .dead, .dead, .dead, .dead, .dead, .dead, .dead, .dead, .dead, .dead, .dead, .dead, .dead, .dead, .dead, .dead, .dead, .dead, .dead, .dead, .dead, .dead, .dead, .dead, .dead, .dead, .dead, .dead, .dead, .dead, .dead, .dead, .dead, .dead, .dead, .dead, .dead, .dead, .dead, .dead, .dead, .dead, .dead, .dead, .dead, .dead, .dead, .dead, .dead, .dead, .dead, .dead, .dead, .dead, .dead, .dead, .dead, .dead, .dead, .dead], []⟩
def k_slices_partitionCmpFunc_739_s3 : Sh := ⟨[.mtk 800000 (.pair (.int .i64) (.pair (.int .i64) (.int .i64))) 36 true, .pv (.int .i64), .dead, .dead, .clo 85 [.ptr (.int .i64)], .dead, .dead, .dead, .dead, .dead, .dead, .dead, .pv (.int .i64), .pv (.int .i64), .dead, .dead, .dead, .dead, .dead, .dead, .dead, .dead, .dead, .dead, .dead, .dead, .dead, .dead, .dead, .dead, .dead, .dead, .dead, .dead, .dead, .dead, .dead, .dead, .dead, .dead, .dead, .dead, .dead, .dead, .dead, .dead, .dead, .dead, .dead, .dead, .dead, .dead, .dead, .dead, .dead, .dead, .dead, .dead, .dead, .dead, .dead, .dead, .dead, .dead, .dead, .dead, .dead, .dead, .dead, .dead, .dead, .dead, .dead, .dead, .dead, .dead, .dead, .dead, .dead, .dead, .dead, .dead, .dead, .dead, .dead, .dead, .dead, .dead, .dead, .dead, .dead, .dead, .dead, .dead, .dead, .dead, .dead, .dead, .dead, .dead, .dead, .dead, .dead, .dead, .dead, .dead, .dead, .dead, .dead, .dead, .dead, .dead, .dead, .dead, .dead, .dead, .dead, .dead, .dead, .dead, .dead, .dead, .dead, .dead, .dead, .dead, .dead, .dead, .dead, .dead, .dead, .dead, .dead, .dead, .dead, .dead, .dead, .dead, .dead, .dead, .dead, .dead, .dead, .dead, .dead, .dead, .dead, .dead, .dead, .dead, .dead, .dead, .dead, .dead, .dead, .dead, .dead, .dead, .dead, .dead, .dead, .dead, .dead, .dead, .dead, .dead, .dead, .dead, .dead, .dead, .dead, .dead, .dead, .dead, .dead, .dead, .dead, .dead], []⟩
def k_slices_partitionCmpFunc_739_s4 : Sh := ⟨[.mtk 800000 (.pair (.int .i64) (.pair (.int .i64) (.int .i64))) 36 true, .pv (.int .i64), .dead, .dead, .clo 85 [.ptr (.int .i64)], .dead, .dead, .dead, .dead, .dead, .dead, .dead, .pv (.int .i64), .pv (.int .i64), .dead, .dead, .dead, .dead, .dead, .dead, .dead, .dead, .dead, .dead, .dead, .dead, .dead, .dead, .dead, .dead, .dead, .dead, .dead, .dead, .dead, .dead, .dead, .dead, .dead, .dead, .dead, .dead, .dead, .dead, .dead, .dead, .dead, .dead, .dead, .dead, .dead, .dead, .dead, .dead, .dead, .dead, .dead, .dead, .dead, .dead, .dead, .dead, .dead, .dead, .dead, .dead, .dead, .dead, .dead, .dead, .dead, .dead, .dead, .dead, .dead, .dead, .dead, .dead, .dead, .dead, .dead, .dead, .dead, .dead, .dead, .dead, .dead, .dead, .dead, .dead, .dead, .dead, .dead, .dead, .dead, .dead, .dead, .dead, .dead, .dead, .dead, .dead, .dead, .dead, .dead, .dead, .dead, .dead, .dead, .dead, .dead, .dead, .dead, .dead, .dead, .dead, .dead, .dead, .dead, .dead, .dead, .dead, .dead, .dead, .dead, .dead, .dead, .dead, .dead, .dead, .dead, .dead, .dead, .dead, .dead, .dead, .dead, .dead, .dead, .dead, .dead, .dead, .dead, .dead, .dead, .dead, .dead, .dead, .dead, .dead, .dead, .dead, .dead, .dead, .dead, .dead, .dead, .dead, .dead, .dead, .dead, .dead, .dead, .dead, .dead, .dead, .dead, .dead, .dead, .dead, .dead, .dead, .dead, .dead, .dead, .dead, .dead, .dead], []⟩
def k_slices_partitionCmpFunc_739_s5 : Sh := ⟨[.mtk 800000 (.pair (.int .i64) (.pair (.int .i64) (.int .i64))) 36 true, .pv (.int .i64), .dead, .dead, .clo 85 [.ptr (.int .i64)], .dead, .dead, .dead, .dead, .dead, .dead, .dead, .pv (.int .i64), .pv (.int .i64), .dead, .dead, .dead, .dead, .dead, .dead, .dead, .dead, .dead, .dead, .dead, .dead, .dead, .dead, .dead, .dead, .dead, .dead, .dead, .dead, .dead, .dead, .dead, .dead, .dead, .dead, .dead, .dead, .dead, .dead, .dead, .dead, .dead, .dead, .dead, .dead, .dead, .dead, .dead, .dead, .dead, .dead, .dead, .dead, .dead, .dead, .dead, .dead, .dead, .dead, .dead, .dead, .dead, .dead, .dead, .dead, .dead, .dead, .dead, .dead, .dead, .dead, .dead, .dead, .dead, .dead, .dead, .dead, .dead, .dead, .dead, .dead, .dead, .dead, .dead, .dead, .dead, .dead, .dead, .dead, .dead, .dead, .dead, .dead, .dead, .dead, .dead, .dead, .dead, .dead, .dead, .dead, .dead, .dead, .dead, .dead, .dead, .dead, .dead, .dead, .dead, .dead, .dead, .dead, .dead, .dead, .dead, .dead, .dead, .dead, .dead, .dead, .dead, .dead, .dead, .dead, .dead, .dead, .dead, .dead, .dead, .dead, .dead, .dead, .dead, .dead, .dead, .dead, .dead, .dead, .dead, .dead, .dead, .dead, .dead, .dead, .dead, .dead, .dead, .dead, .dead, .dead, .dead, .dead, .dead, .dead, .dead, .dead, .dead, .dead, .dead, .dead, .dead, .dead, .dead, .dead, .dead, .dead, .dead, .dead, .dead, .dead, .dead, .dead], []⟩
def k_slices_partitionCmpFunc_739_h : Hint := (.seq .no (.seq .no (.seq .no (.seq (.block (.loop k_slices_partitionCmpFunc_739_s1 .no)) (.seq (.block (.loop k_slices_partitionCmpFunc_739_s2 .no)) (.seq .no (.seq .no (.seq .no (.seq .no (.seq (.block (.loop k_slices_partitionCmpFunc_739_s3 (.block (.seq (.block (.loop k_slices_partitionCmpFunc_739_s4 .no)) (.seq (.block (.loop k_slices_partitionCmpFunc_739_s5 .no)) .no))))) .no))))))))))
def k_slices_partitionCmpFunc_739_m (N : Nat) (data : List (Int × Int × Int)) (a : Int) (b : Int) (pivot : Int) (cmp : Int) : Option (Int × Bool × (List (Int × Int × Int))) :=
 (if 0 ≤ pivot ∧ pivot < (data.length : Int) then
 (Option.bind (data[pivot.toNat]?) fun (e : Int × Int × Int) =>
 (if 0 ≤ a ∧ a < (data.length : Int) then
 (Option.bind (data[a.toNat]?) fun (e2 : Int × Int × Int) =>
 (if 0 ≤ a ∧ a < (data.length : Int) then
 (Option.bind (data[a.toNat]?) fun (e3 : Int × Int × Int) =>
 (if 0 ≤ pivot ∧ pivot < ((data.set a.toNat e).length : Int) then
 (Option.bind ((data.set a.toNat e)[pivot.toNat]?) fun (e4 : Int × Int × Int) =>
 (if fits (a + 1) then (if fits (b - 1) then (iter (fun (go : ((List (Int × Int × Int)) × Int × Int × Int × Int) → Option (Int × Bool × (List (Int × Int × Int)))) (g : (List (Int × Int × Int)) × Int × Int × Int × Int) =>
 match g with
 | (data2, a2, cmp2, i, j) =>
 (bif (decide (i ≤ j)) then
 (if 0 ≤ i ∧ i < (data2.length : Int) then
 (Option.bind (data2[i.toNat]?) fun (e5 : Int × Int × Int) =>
 (if 0 ≤ a2 ∧ a2 < (data2.length : Int) then
 (Option.bind (data2[a2.toNat]?) fun (e6 : Int × Int × Int) =>
 (Option.bind (i_byAxis_1_m N e5.1 e5.2.1 e5.2.2 e6.1 e6.2.1 e6.2.2 cmp2) fun (r : Int) =>
 (bif (decide (r < 0)) then
 (if fits (i + 1) then (go (data2, a2, cmp2, (i + 1), j)) else none)
 else
 (iter (fun (go2 : ((List (Int × Int × Int)) × Int × Int × Int × Int) → Option (Int × Bool × (List (Int × Int × Int)))) (g : (List (Int × Int × Int)) × Int × Int × Int × Int) =>
 match g with
 | (data3, a3, cmp3, i2, j2) =>
 (bif (decide (i2 ≤ j2)) then
 (if 0 ≤ j2 ∧ j2 < (data3.length : Int) then
 (Option.bind (data3[j2.toNat]?) fun (e7 : Int × Int × Int) =>
 (if 0 ≤ a3 ∧ a3 < (data3.length : Int) then
 (Option.bind (data3[a3.toNat]?) fun (e8 : Int × Int × Int) =>
 (Option.bind (i_byAxis_1_m N e7.1 e7.2.1 e7.2.2 e8.1 e8.2.1 e8.2.2 cmp3) fun (r2 : Int) =>
 (bif (!(decide (r2 < 0))) then
 (if fits (j2 - 1) then (go2 (data3, a3, cmp3, i2, (j2 - 1))) else none)
 else
 (bif (decide (j2 < i2)) then
 (if 0 ≤ a3 ∧ a3 < (data3.length : Int) then
 (Option.bind (data3[a3.toNat]?) fun (e9 : Int × Int × Int) =>
 (if 0 ≤ j2 ∧ j2 < (data3.length : Int) then
 (Option.bind (data3[j2.toNat]?) fun (e10 : Int × Int × Int) =>
 (if 0 ≤ j2 ∧ j2 < (data3.length : Int) then
 (Option.bind (data3[j2.toNat]?) fun (e11 : Int × Int × Int) =>
 (if 0 ≤ a3 ∧ a3 < ((data3.set j2.toNat e9).length : Int) then
 (Option.bind ((data3.set j2.toNat e9)[a3.toNat]?) fun (e12 : Int × Int × Int) =>
 (some (j2, true, ((data3.set j2.toNat e9).set a3.toNat e10))))
 else none))
 else none))
 else none))
 else none)
 else
 (if 0 ≤ j2 ∧ j2 < (data3.length : Int) then
 (Option.bind (data3[j2.toNat]?) fun (e13 : Int × Int × Int) =>
 (if 0 ≤ i2 ∧ i2 < (data3.length : Int) then
 (Option.bind (data3[i2.toNat]?) fun (e14 : Int × Int × Int) =>
 (if 0 ≤ i2 ∧ i2 < (data3.length : Int) then
 (Option.bind (data3[i2.toNat]?) fun (e15 : Int × Int × Int) =>
 (if 0 ≤ j2 ∧ j2 < ((data3.set i2.toNat e13).length : Int) then
 (Option.bind ((data3.set i2.toNat e13)[j2.toNat]?) fun (e16 : Int × Int × Int) =>
 (if fits (i2 + 1) then (if fits (j2 - 1) then (iter (fun (go3 : ((List (Int × Int × Int)) × Int × Int × Int × Int) → Option (Int × Bool × (List (Int × Int × Int)))) (g : (List (Int × Int × Int)) × Int × Int × Int × Int) =>
 match g with
 | (data4, a4, cmp4, i3, j3) =>
 (iter (fun (go4 : ((List (Int × Int × Int)) × Int × Int × Int × Int) → Option (Int × Bool × (List (Int × Int × Int)))) (g : (List (Int × Int × Int)) × Int × Int × Int × Int) =>
 match g with
 | (data5, a5, cmp5, i4, j4) =>
 (bif (decide (i4 ≤ j4)) then
 (if 0 ≤ i4 ∧ i4 < (data5.length : Int) then
 (Option.bind (data5[i4.toNat]?) fun (e17 : Int × Int × Int) =>
 (if 0 ≤ a5 ∧ a5 < (data5.length : Int) then
 (Option.bind (data5[a5.toNat]?) fun (e18 : Int × Int × Int) =>
 (Option.bind (i_byAxis_1_m N e17.1 e17.2.1 e17.2.2 e18.1 e18.2.1 e18.2.2 cmp5) fun (r3 : Int) =>
 (bif (decide (r3 < 0)) then
 (if fits (i4 + 1) then (go4 (data5, a5, cmp5, (i4 + 1), j4)) else none)
 else
 (iter (fun (go5 : ((List (Int × Int × Int)) × Int × Int × Int × Int) → Option (Int × Bool × (List (Int × Int × Int)))) (g : (List (Int × Int × Int)) × Int × Int × Int × Int) =>
 match g with
 | (data6, a6, cmp6, i5, j5) =>
 (bif (decide (i5 ≤ j5)) then
 (if 0 ≤ j5 ∧ j5 < (data6.length : Int) then
 (Option.bind (data6[j5.toNat]?) fun (e19 : Int × Int × Int) =>
 (if 0 ≤ a6 ∧ a6 < (data6.length : Int) then
 (Option.bind (data6[a6.toNat]?) fun (e20 : Int × Int × Int) =>
 (Option.bind (i_byAxis_1_m N e19.1 e19.2.1 e19.2.2 e20.1 e20.2.1 e20.2.2 cmp6) fun (r4 : Int) =>
 (bif (!(decide (r4 < 0))) then
 (if fits (j5 - 1) then (go5 (data6, a6, cmp6, i5, (j5 - 1))) else none)
 else
 (bif (decide (j5 < i5)) then
 (if 0 ≤ a6 ∧ a6 < (data6.length : Int) then
 (Option.bind (data6[a6.toNat]?) fun (e21 : Int × Int × Int) =>
 (if 0 ≤ j5 ∧ j5 < (data6.length : Int) then
 (Option.bind (data6[j5.toNat]?) fun (e22 : Int × Int × Int) =>
 (if 0 ≤ j5 ∧ j5 < (data6.length : Int) then
 (Option.bind (data6[j5.toNat]?) fun (e23 : Int × Int × Int) =>
 (if 0 ≤ a6 ∧ a6 < ((data6.set j5.toNat e21).length : Int) then
 (Option.bind ((data6.set j5.toNat e21)[a6.toNat]?) fun (e24 : Int × Int × Int) =>
 (some (j5, false, ((data6.set j5.toNat e21).set a6.toNat e22))))
 else none))
 else none))
 else none))
 else none)
 else
 (if 0 ≤ j5 ∧ j5 < (data6.length : Int) then
 (Option.bind (data6[j5.toNat]?) fun (e25 : Int × Int × Int) =>
 (if 0 ≤ i5 ∧ i5 < (data6.length : Int) then
 (Option.bind (data6[i5.toNat]?) fun (e26 : Int × Int × Int) =>
 (if 0 ≤ i5 ∧ i5 < (data6.length : Int) then
 (Option.bind (data6[i5.toNat]?) fun (e27 : Int × Int × Int) =>
 (if 0 ≤ j5 ∧ j5 < ((data6.set i5.toNat e25).length : Int) then
 (Option.bind ((data6.set i5.toNat e25)[j5.toNat]?) fun (e28 : Int × Int × Int) =>
 (if fits (i5 + 1) then (if fits (j5 - 1) then (go3 (((data6.set i5.toNat e25).set j5.toNat e26), a6, cmp6, (i5 + 1), (j5 - 1))) else none) else none))
 else none))
 else none))
 else none))
 else none)))))
 else none))
 else none)
 else
 (bif (decide (j5 < i5)) then
 (if 0 ≤ a6 ∧ a6 < (data6.length : Int) then
 (Option.bind (data6[a6.toNat]?) fun (e29 : Int × Int × Int) =>
 (if 0 ≤ j5 ∧ j5 < (data6.length : Int) then
 (Option.bind (data6[j5.toNat]?) fun (e30 : Int × Int × Int) =>
 (if 0 ≤ j5 ∧ j5 < (data6.length : Int) then
 (Option.bind (data6[j5.toNat]?) fun (e31 : Int × Int × Int) =>
 (if 0 ≤ a6 ∧ a6 < ((data6.set j5.toNat e29).length : Int) then
 (Option.bind ((data6.set j5.toNat e29)[a6.toNat]?) fun (e32 : Int × Int × Int) =>
 (some (j5, false, ((data6.set j5.toNat e29).set a6.toNat e30))))
 else none))
 else none))
 else none))
 else none)
 else
 (if 0 ≤ j5 ∧ j5 < (data6.length : Int) then
 (Option.bind (data6[j5.toNat]?) fun (e33 : Int × Int × Int) =>
 (if 0 ≤ i5 ∧ i5 < (data6.length : Int) then
 (Option.bind (data6[i5.toNat]?) fun (e34 : Int × Int × Int) =>
 (if 0 ≤ i5 ∧ i5 < (data6.length : Int) then
 (Option.bind (data6[i5.toNat]?) fun (e35 : Int × Int × Int) =>
 (if 0 ≤ j5 ∧ j5 < ((data6.set i5.toNat e33).length : Int) then
 (Option.bind ((data6.set i5.toNat e33)[j5.toNat]?) fun (e36 : Int × Int × Int) =>
 (if fits (i5 + 1) then (if fits (j5 - 1) then (go3 (((data6.set i5.toNat e33).set j5.toNat e34), a6, cmp6, (i5 + 1), (j5 - 1))) else none) else none))
 else none))
 else none))
 else none))
 else none)))) N (data5, a5, cmp5, i4, j4)))))
 else none))
 else none)
 else
 (iter (fun (go6 : ((List (Int × Int × Int)) × Int × Int × Int × Int) → Option (Int × Bool × (List (Int × Int × Int)))) (g : (List (Int × Int × Int)) × Int × Int × Int × Int) =>
 match g with
 | (data7, a7, cmp7, i6, j6) =>
 (bif (decide (i6 ≤ j6)) then
 (if 0 ≤ j6 ∧ j6 < (data7.length : Int) then
 (Option.bind (data7[j6.toNat]?) fun (e37 : Int × Int × Int) =>
 (if 0 ≤ a7 ∧ a7 < (data7.length : Int) then
 (Option.bind (data7[a7.toNat]?) fun (e38 : Int × Int × Int) =>
 (Option.bind (i_byAxis_1_m N e37.1 e37.2.1 e37.2.2 e38.1 e38.2.1 e38.2.2 cmp7) fun (r5 : Int) =>
 (bif (!(decide (r5 < 0))) then
 (if fits (j6 - 1) then (go6 (data7, a7, cmp7, i6, (j6 - 1))) else none)
 else
 (bif (decide (j6 < i6)) then
 (if 0 ≤ a7 ∧ a7 < (data7.length : Int) then
 (Option.bind (data7[a7.toNat]?) fun (e39 : Int × Int × Int) =>
 (if 0 ≤ j6 ∧ j6 < (data7.length : Int) then
 (Option.bind (data7[j6.toNat]?) fun (e40 : Int × Int × Int) =>
 (if 0 ≤ j6 ∧ j6 < (data7.length : Int) then
 (Option.bind (data7[j6.toNat]?) fun (e41 : Int × Int × Int) =>
 (if 0 ≤ a7 ∧ a7 < ((data7.set j6.toNat e39).length : Int) then
 (Option.bind ((data7.set j6.toNat e39)[a7.toNat]?) fun (e42 : Int × Int × Int) =>
 (some (j6, false, ((data7.set j6.toNat e39).set a7.toNat e40))))
 else none))
 else none))
 else none))
 else none)
 else
 (if 0 ≤ j6 ∧ j6 < (data7.length : Int) then
 (Option.bind (data7[j6.toNat]?) fun (e43 : Int × Int × Int) =>
 (if 0 ≤ i6 ∧ i6 < (data7.length : Int) then
 (Option.bind (data7[i6.toNat]?) fun (e44 : Int × Int × Int) =>
 (if 0 ≤ i6 ∧ i6 < (data7.length : Int) then
 (Option.bind (data7[i6.toNat]?) fun (e45 : Int × Int × Int) =>
 (if 0 ≤ j6 ∧ j6 < ((data7.set i6.toNat e43).length : Int) then
 (Option.bind ((data7.set i6.toNat e43)[j6.toNat]?) fun (e46 : Int × Int × Int) =>
 (if fits (i6 + 1) then (if fits (j6 - 1) then (go3 (((data7.set i6.toNat e43).set j6.toNat e44), a7, cmp7, (i6 + 1), (j6 - 1))) else none) else none))
 else none))
 else none))
 else none))
 else none)))))
 else none))
 else none)
 else
 (bif (decide (j6 < i6)) then
 (if 0 ≤ a7 ∧ a7 < (data7.length : Int) then
 (Option.bind (data7[a7.toNat]?) fun (e47 : Int × Int × Int) =>
 (if 0 ≤ j6 ∧ j6 < (data7.length : Int) then
 (Option.bind (data7[j6.toNat]?) fun (e48 : Int × Int × Int) =>
 (if 0 ≤ j6 ∧ j6 < (data7.length : Int) then
 (Option.bind (data7[j6.toNat]?) fun (e49 : Int × Int × Int) =>
 (if 0 ≤ a7 ∧ a7 < ((data7.set j6.toNat e47).length : Int) then
 (Option.bind ((data7.set j6.toNat e47)[a7.toNat]?) fun (e50 : Int × Int × Int) =>
 (some (j6, false, ((data7.set j6.toNat e47).set a7.toNat e48))))
 else none))
 else none))
 else none))
 else none)
 else
 (if 0 ≤ j6 ∧ j6 < (data7.length : Int) then
 (Option.bind (data7[j6.toNat]?) fun (e51 : Int × Int × Int) =>
 (if 0 ≤ i6 ∧ i6 < (data7.length : Int) then
 (Option.bind (data7[i6.toNat]?) fun (e52 : Int × Int × Int) =>
 (if 0 ≤ i6 ∧ i6 < (data7.length : Int) then
 (Option.bind (data7[i6.toNat]?) fun (e53 : Int × Int × Int) =>
 (if 0 ≤ j6 ∧ j6 < ((data7.set i6.toNat e51).length : Int) then
 (Option.bind ((data7.set i6.toNat e51)[j6.toNat]?) fun (e54 : Int × Int × Int) =>
 (if fits (i6 + 1) then (if fits (j6 - 1) then (go3 (((data7.set i6.toNat e51).set j6.toNat e52), a7, cmp7, (i6 + 1), (j6 - 1))) else none) else none))
 else none))
 else none))
 else none))
 else none)))) N (data5, a5, cmp5, i4, j4)))) N (data4, a4, cmp4, i3, j3))) N (((data3.set i2.toNat e13).set j2.toNat e14), a3, cmp3, (i2 + 1), (j2 - 1))) else none) else none))
 else none))
 else none))
 else none))
 else none)))))
 else none))
 else none)
 else
 (bif (decide (j2 < i2)) then
 (if 0 ≤ a3 ∧ a3 < (data3.length : Int) then
 (Option.bind (data3[a3.toNat]?) fun (e55 : Int × Int × Int) =>
 (if 0 ≤ j2 ∧ j2 < (data3.length : Int) then
 (Option.bind (data3[j2.toNat]?) fun (e56 : Int × Int × Int) =>
 (if 0 ≤ j2 ∧ j2 < (data3.length : Int) then
 (Option.bind (data3[j2.toNat]?) fun (e57 : Int × Int × Int) =>
 (if 0 ≤ a3 ∧ a3 < ((data3.set j2.toNat e55).length : Int) then
 (Option.bind ((data3.set j2.toNat e55)[a3.toNat]?) fun (e58 : Int × Int × Int) =>
 (some (j2, true, ((data3.set j2.toNat e55).set a3.toNat e56))))
 else none))
 else none))
 else none))
 else none)
 else
 (if 0 ≤ j2 ∧ j2 < (data3.length : Int) then
 (Option.bind (data3[j2.toNat]?) fun (e59 : Int × Int × Int) =>
 (if 0 ≤ i2 ∧ i2 < (data3.length : Int) then
 (Option.bind (data3[i2.toNat]?) fun (e60 : Int × Int × Int) =>
 (if 0 ≤ i2 ∧ i2 < (data3.length : Int) then
 (Option.bind (data3[i2.toNat]?) fun (e61 : Int × Int × Int) =>
 (if 0 ≤ j2 ∧ j2 < ((data3.set i2.toNat e59).length : Int) then
 (Option.bind ((data3.set i2.toNat e59)[j2.toNat]?) fun (e62 : Int × Int × Int) =>
 (if fits (i2 + 1) then (if fits (j2 - 1) then (iter (fun (go7 : ((List (Int × Int × Int)) × Int × Int × Int × Int) → Option (Int × Bool × (List (Int × Int × Int)))) (g : (List (Int × Int × Int)) × Int × Int × Int × Int) =>
 match g with
 | (data8, a8, cmp8, i7, j7) =>
 (iter (fun (go8 : ((List (Int × Int × Int)) × Int × Int × Int × Int) → Option (Int × Bool × (List (Int × Int × Int)))) (g : (List (Int × Int × Int)) × Int × Int × Int × Int) =>
 match g with
 | (data9, a9, cmp9, i8, j8) =>
 (bif (decide (i8 ≤ j8)) then
 (if 0 ≤ i8 ∧ i8 < (data9.length : Int) then
 (Option.bind (data9[i8.toNat]?) fun (e63 : Int × Int × Int) =>
 (if 0 ≤ a9 ∧ a9 < (data9.length : Int) then
 (Option.bind (data9[a9.toNat]?) fun (e64 : Int × Int × Int) =>
 (Option.bind (i_byAxis_1_m N e63.1 e63.2.1 e63.2.2 e64.1 e64.2.1 e64.2.2 cmp9) fun (r6 : Int) =>
 (bif (decide (r6 < 0)) then
 (if fits (i8 + 1) then (go8 (data9, a9, cmp9, (i8 + 1), j8)) else none)
 else
 (iter (fun (go9 : ((List (Int × Int × Int)) × Int × Int × Int × Int) → Option (Int × Bool × (List (Int × Int × Int)))) (g : (List (Int × Int × Int)) × Int × Int × Int × Int) =>
 match g with
 | (data10, a10, cmp10, i9, j9) =>
 (bif (decide (i9 ≤ j9)) then
 (if 0 ≤ j9 ∧ j9 < (data10.length : Int) then
 (Option.bind (data10[j9.toNat]?) fun (e65 : Int × Int × Int) =>
 (if 0 ≤ a10 ∧ a10 < (data10.length : Int) then
 (Option.bind (data10[a10.toNat]?) fun (e66 : Int × Int × Int) =>
 (Option.bind (i_byAxis_1_m N e65.1 e65.2.1 e65.2.2 e66.1 e66.2.1 e66.2.2 cmp10) fun (r7 : Int) =>
 (bif (!(decide (r7 < 0))) then
 (if fits (j9 - 1) then (go9 (data10, a10, cmp10, i9, (j9 - 1))) else none)
 else
 (bif (decide (j9 < i9)) then
 (if 0 ≤ a10 ∧ a10 < (data10.length : Int) then
 (Option.bind (data10[a10.toNat]?) fun (e67 : Int × Int × Int) =>
 (if 0 ≤ j9 ∧ j9 < (data10.length : Int) then
 (Option.bind (data10[j9.toNat]?) fun (e68 : Int × Int × Int) =>
 (if 0 ≤ j9 ∧ j9 < (data10.length : Int) then
 (Option.bind (data10[j9.toNat]?) fun (e69 : Int × Int × Int) =>
 (if 0 ≤ a10 ∧ a10 < ((data10.set j9.toNat e67).length : Int) then
 (Option.bind ((data10.set j9.toNat e67)[a10.toNat]?) fun (e70 : Int × Int × Int) =>
 (some (j9, false, ((data10.set j9.toNat e67).set a10.toNat e68))))
 else none))
 else none))
 else none))
 else none)
 else
 (if 0 ≤ j9 ∧ j9 < (data10.length : Int) then
 (Option.bind (data10[j9.toNat]?) fun (e71 : Int × Int × Int) =>
 (if 0 ≤ i9 ∧ i9 < (data10.length : Int) then
 (Option.bind (data10[i9.toNat]?) fun (e72 : Int × Int × Int) =>
 (if 0 ≤ i9 ∧ i9 < (data10.length : Int) then
 (Option.bind (data10[i9.toNat]?) fun (e73 : Int × Int × Int) =>
 (if 0 ≤ j9 ∧ j9 < ((data10.set i9.toNat e71).length : Int) then
 (Option.bind ((data10.set i9.toNat e71)[j9.toNat]?) fun (e74 : Int × Int × Int) =>
 (if fits (i9 + 1) then (if fits (j9 - 1) then (go7 (((data10.set i9.toNat e71).set j9.toNat e72), a10, cmp10, (i9 + 1), (j9 - 1))) else none) else none))
 else none))
 else none))
 else none))
 else none)))))
 else none))
 else none)
 else
 (bif (decide (j9 < i9)) then
 (if 0 ≤ a10 ∧ a10 < (data10.length : Int) then
 (Option.bind (data10[a10.toNat]?) fun (e75 : Int × Int × Int) =>
 (if 0 ≤ j9 ∧ j9 < (data10.length : Int) then
 (Option.bind (data10[j9.toNat]?) fun (e76 : Int × Int × Int) =>
 (if 0 ≤ j9 ∧ j9 < (data10.length : Int) then
 (Option.bind (data10[j9.toNat]?) fun (e77 : Int × Int × Int) =>
 (if 0 ≤ a10 ∧ a10 < ((data10.set j9.toNat e75).length : Int) then
 (Option.bind ((data10.set j9.toNat e75)[a10.toNat]?) fun (e78 : Int × Int × Int) =>
 (some (j9, false, ((data10.set j9.toNat e75).set a10.toNat e76))))
 else none))
 else none))
 else none))
 else none)
 else
 (if 0 ≤ j9 ∧ j9 < (data10.length : Int) then
 (Option.bind (data10[j9.toNat]?) fun (e79 : Int × Int × Int) =>
 (if 0 ≤ i9 ∧ i9 < (data10.length : Int) then
 (Option.bind (data10[i9.toNat]?) fun (e80 : Int × Int × Int) =>
 (if 0 ≤ i9 ∧ i9 < (data10.length : Int) then
 (Option.bind (data10[i9.toNat]?) fun (e81 : Int × Int × Int) =>
 (if 0 ≤ j9 ∧ j9 < ((data10.set i9.toNat e79).length : Int) then
 (Option.bind ((data10.set i9.toNat e79)[j9.toNat]?) fun (e82 : Int × Int × Int) =>
 (if fits (i9 + 1) then (if fits (j9 - 1) then (go7 (((data10.set i9.toNat e79).set j9.toNat e80), a10, cmp10, (i9 + 1), (j9 - 1))) else none) else none))
 else none))
 else none))
 else none))
 else none)))) N (data9, a9, cmp9, i8, j8)))))
 else none))
 else none)
 else
 (iter (fun (go10 : ((List (Int × Int × Int)) × Int × Int × Int × Int) → Option (Int × Bool × (List (Int × Int × Int)))) (g : (List (Int × Int × Int)) × Int × Int × Int × Int) =>
 match g with
 | (data11, a11, cmp11, i10, j10) =>
 (bif (decide (i10 ≤ j10)) then
 (if 0 ≤ j10 ∧ j10 < (data11.length : Int) then
 (Option.bind (data11[j10.toNat]?) fun (e83 : Int × Int × Int) =>
 (if 0 ≤ a11 ∧ a11 < (data11.length : Int) then
 (Option.bind (data11[a11.toNat]?) fun (e84 : Int × Int × Int) =>
 (Option.bind (i_byAxis_1_m N e83.1 e83.2.1 e83.2.2 e84.1 e84.2.1 e84.2.2 cmp11) fun (r8 : Int) =>
 (bif (!(decide (r8 < 0))) then
 (if fits (j10 - 1) then (go10 (data11, a11, cmp11, i10, (j10 - 1))) else none)
 else
 (bif (decide (j10 < i10)) then
 (if 0 ≤ a11 ∧ a11 < (data11.length : Int) then
 (Option.bind (data11[a11.toNat]?) fun (e85 : Int × Int × Int) =>
 (if 0 ≤ j10 ∧ j10 < (data11.length : Int) then
 (Option.bind (data11[j10.toNat]?) fun (e86 : Int × Int × Int) =>
 (if 0 ≤ j10 ∧ j10 < (data11.length : Int) then
 (Option.bind (data11[j10.toNat]?) fun (e87 : Int × Int × Int) =>
 (if 0 ≤ a11 ∧ a11 < ((data11.set j10.toNat e85).length : Int) then
 (Option.bind ((data11.set j10.toNat e85)[a11.toNat]?) fun (e88 : Int × Int × Int) =>
 (some (j10, false, ((data11.set j10.toNat e85).set a11.toNat e86))))
 else none))
 else none))
 else none))
 else none)
 else
 (if 0 ≤ j10 ∧ j10 < (data11.length : Int) then
 (Option.bind (data11[j10.toNat]?) fun (e89 : Int × Int × Int) =>
 (if 0 ≤ i10 ∧ i10 < (data11.length : Int) then
 (Option.bind (data11[i10.toNat]?) fun (e90 : Int × Int × Int) =>
 (if 0 ≤ i10 ∧ i10 < (data11.length : Int) then
 (Option.bind (data11[i10.toNat]?) fun (e91 : Int × Int × Int) =>
 (if 0 ≤ j10 ∧ j10 < ((data11.set i10.toNat e89).length : Int) then
 (Option.bind ((data11.set i10.toNat e89)[j10.toNat]?) fun (e92 : Int × Int × Int) =>
 (if fits (i10 + 1) then (if fits (j10 - 1) then (go7 (((data11.set i10.toNat e89).set j10.toNat e90), a11, cmp11, (i10 + 1), (j10 - 1))) else none) else none))
 else none))
 else none))
 else none))
 else none)))))
 else none))
 else none)
 else
 (bif (decide (j10 < i10)) then
 (if 0 ≤ a11 ∧ a11 < (data11.length : Int) then
 (Option.bind (data11[a11.toNat]?) fun (e93 : Int × Int × Int) =>
 (if 0 ≤ j10 ∧ j10 < (data11.length : Int) then
 (Option.bind (data11[j10.toNat]?) fun (e94 : Int × Int × Int) =>
 (if 0 ≤ j10 ∧ j10 < (data11.length : Int) then
 (Option.bind (data11[j10.toNat]?) fun (e95 : Int × Int × Int) =>
 (if 0 ≤ a11 ∧ a11 < ((data11.set j10.toNat e93).length : Int) then
 (Option.bind ((data11.set j10.toNat e93)[a11.toNat]?) fun (e96 : Int × Int × Int) =>
 (some (j10, false, ((data11.set j10.toNat e93).set a11.toNat e94))))
 else none))
 else none))
 else none))
 else none)
 else
 (if 0 ≤ j10 ∧ j10 < (data11.length : Int) then
 (Option.bind (data11[j10.toNat]?) fun (e97 : Int × Int × Int) =>
 (if 0 ≤ i10 ∧ i10 < (data11.length : Int) then
 (Option.bind (data11[i10.toNat]?) fun (e98 : Int × Int × Int) =>
 (if 0 ≤ i10 ∧ i10 < (data11.length : Int) then
 (Option.bind (data11[i10.toNat]?) fun (e99 : Int × Int × Int) =>
 (if 0 ≤ j10 ∧ j10 < ((data11.set i10.toNat e97).length : Int) then
 (Option.bind ((data11.set i10.toNat e97)[j10.toNat]?) fun (e100 : Int × Int × Int) =>
 (if fits (i10 + 1) then (if fits (j10 - 1) then (go7 (((data11.set i10.toNat e97).set j10.toNat e98), a11, cmp11, (i10 + 1), (j10 - 1))) else none) else none))
 else none))
 else none))
 else none))
 else none)))) N (data9, a9, cmp9, i8, j8)))) N (data8, a8, cmp8, i7, j7))) N (((data3.set i2.toNat e59).set j2.toNat e60), a3, cmp3, (i2 + 1), (j2 - 1))) else none) else none))
 else none))
 else none))
 else none))
 else none)))) N (data2, a2, cmp2, i, j)))))
 else none))
 else none)
 else
 (iter (fun (go11 : ((List (Int × Int × Int)) × Int × Int × Int × Int) → Option (Int × Bool × (List (Int × Int × Int)))) (g : (List (Int × Int × Int)) × Int × Int × Int × Int) =>
 match g with
 | (data12, a12, cmp12, i11, j11) =>
 (bif (decide (i11 ≤ j11)) then
 (if 0 ≤ j11 ∧ j11 < (data12.length : Int) then
 (Option.bind (data12[j11.toNat]?) fun (e101 : Int × Int × Int) =>
 (if 0 ≤ a12 ∧ a12 < (data12.length : Int) then
 (Option.bind (data12[a12.toNat]?) fun (e102 : Int × Int × Int) =>
 (Option.bind (i_byAxis_1_m N e101.1 e101.2.1 e101.2.2 e102.1 e102.2.1 e102.2.2 cmp12) fun (r9 : Int) =>
 (bif (!(decide (r9 < 0))) then
 (if fits (j11 - 1) then (go11 (data12, a12, cmp12, i11, (j11 - 1))) else none)
 else
 (bif (decide (j11 < i11)) then
 (if 0 ≤ a12 ∧ a12 < (data12.length : Int) then
 (Option.bind (data12[a12.toNat]?) fun (e103 : Int × Int × Int) =>
 (if 0 ≤ j11 ∧ j11 < (data12.length : Int) then
 (Option.bind (data12[j11.toNat]?) fun (e104 : Int × Int × Int) =>
 (if 0 ≤ j11 ∧ j11 < (data12.length : Int) then
 (Option.bind (data12[j11.toNat]?) fun (e105 : Int × Int × Int) =>
 (if 0 ≤ a12 ∧ a12 < ((data12.set j11.toNat e103).length : Int) then
 (Option.bind ((data12.set j11.toNat e103)[a12.toNat]?) fun (e106 : Int × Int × Int) =>
 (some (j11, true, ((data12.set j11.toNat e103).set a12.toNat e104))))
 else none))
 else none))
 else none))
 else none)
 else
 (if 0 ≤ j11 ∧ j11 < (data12.length : Int) then
 (Option.bind (data12[j11.toNat]?) fun (e107 : Int × Int × Int) =>
 (if 0 ≤ i11 ∧ i11 < (data12.length : Int) then
 (Option.bind (data12[i11.toNat]?) fun (e108 : Int × Int × Int) =>
 (if 0 ≤ i11 ∧ i11 < (data12.length : Int) then
 (Option.bind (data12[i11.toNat]?) fun (e109 : Int × Int × Int) =>
 (if 0 ≤ j11 ∧ j11 < ((data12.set i11.toNat e107).length : Int) then
 (Option.bind ((data12.set i11.toNat e107)[j11.toNat]?) fun (e110 : Int × Int × Int) =>
 (if fits (i11 + 1) then (if fits (j11 - 1) then (iter (fun (go12 : ((List (Int × Int × Int)) × Int × Int × Int × Int) → Option (Int × Bool × (List (Int × Int × Int)))) (g : (List (Int × Int × Int)) × Int × Int × Int × Int) =>
 match g with
 | (data13, a13, cmp13, i12, j12) =>
 (iter (fun (go13 : ((List (Int × Int × Int)) × Int × Int × Int × Int) → Option (Int × Bool × (List (Int × Int × Int)))) (g : (List (Int × Int × Int)) × Int × Int × Int × Int) =>
 match g with
 | (data14, a14, cmp14, i13, j13) =>
 (bif (decide (i13 ≤ j13)) then
 (if 0 ≤ i13 ∧ i13 < (data14.length : Int) then
 (Option.bind (data14[i13.toNat]?) fun (e111 : Int × Int × Int) =>
 (if 0 ≤ a14 ∧ a14 < (data14.length : Int) then
 (Option.bind (data14[a14.toNat]?) fun (e112 : Int × Int × Int) =>
 (Option.bind (i_byAxis_1_m N e111.1 e111.2.1 e111.2.2 e112.1 e112.2.1 e112.2.2 cmp14) fun (r10 : Int) =>
 (bif (decide (r10 < 0)) then
 (if fits (i13 + 1) then (go13 (data14, a14, cmp14, (i13 + 1), j13)) else none)
 else
 (iter (fun (go14 : ((List (Int × Int × Int)) × Int × Int × Int × Int) → Option (Int × Bool × (List (Int × Int × Int)))) (g : (List (Int × Int × Int)) × Int × Int × Int × Int) =>
 match g with
 | (data15, a15, cmp15, i14, j14) =>
 (bif (decide (i14 ≤ j14)) then
 (if 0 ≤ j14 ∧ j14 < (data15.length : Int) then
 (Option.bind (data15[j14.toNat]?) fun (e113 : Int × Int × Int) =>
 (if 0 ≤ a15 ∧ a15 < (data15.length : Int) then
 (Option.bind (data15[a15.toNat]?) fun (e114 : Int × Int × Int) =>
 (Option.bind (i_byAxis_1_m N e113.1 e113.2.1 e113.2.2 e114.1 e114.2.1 e114.2.2 cmp15) fun (r11 : Int) =>
 (bif (!(decide (r11 < 0))) then
 (if fits (j14 - 1) then (go14 (data15, a15, cmp15, i14, (j14 - 1))) else none)
 else
 (bif (decide (j14 < i14)) then
 (if 0 ≤ a15 ∧ a15 < (data15.length : Int) then
 (Option.bind (data15[a15.toNat]?) fun (e115 : Int × Int × Int) =>
 (if 0 ≤ j14 ∧ j14 < (data15.length : Int) then
 (Option.bind (data15[j14.toNat]?) fun (e116 : Int × Int × Int) =>
 (if 0 ≤ j14 ∧ j14 < (data15.length : Int) then
 (Option.bind (data15[j14.toNat]?) fun (e117 : Int × Int × Int) =>
 (if 0 ≤ a15 ∧ a15 < ((data15.set j14.toNat e115).length : Int) then
 (Option.bind ((data15.set j14.toNat e115)[a15.toNat]?) fun (e118 : Int × Int × Int) =>
 (some (j14, false, ((data15.set j14.toNat e115).set a15.toNat e116))))
 else none))
 else none))
 else none))
 else none)
 else
 (if 0 ≤ j14 ∧ j14 < (data15.length : Int) then
 (Option.bind (data15[j14.toNat]?) fun (e119 : Int × Int × Int) =>
 (if 0 ≤ i14 ∧ i14 < (data15.length : Int) then
 (Option.bind (data15[i14.toNat]?) fun (e120 : Int × Int × Int) =>
 (if 0 ≤ i14 ∧ i14 < (data15.length : Int) then
 (Option.bind (data15[i14.toNat]?) fun (e121 : Int × Int × Int) =>
 (if 0 ≤ j14 ∧ j14 < ((data15.set i14.toNat e119).length : Int) then
 (Option.bind ((data15.set i14.toNat e119)[j14.toNat]?) fun (e122 : Int × Int × Int) =>
 (if fits (i14 + 1) then (if fits (j14 - 1) then (go12 (((data15.set i14.toNat e119).set j14.toNat e120), a15, cmp15, (i14 + 1), (j14 - 1))) else none) else none))
 else none))
 else none))
 else none))
 else none)))))
 else none))
 else none)
 else
 (bif (decide (j14 < i14)) then
 (if 0 ≤ a15 ∧ a15 < (data15.length : Int) then
 (Option.bind (data15[a15.toNat]?) fun (e123 : Int × Int × Int) =>
 (if 0 ≤ j14 ∧ j14 < (data15.length : Int) then
 (Option.bind (data15[j14.toNat]?) fun (e124 : Int × Int × Int) =>
 (if 0 ≤ j14 ∧ j14 < (data15.length : Int) then
 (Option.bind (data15[j14.toNat]?) fun (e125 : Int × Int × Int) =>
 (if 0 ≤ a15 ∧ a15 < ((data15.set j14.toNat e123).length : Int) then
 (Option.bind ((data15.set j14.toNat e123)[a15.toNat]?) fun (e126 : Int × Int × Int) =>
 (some (j14, false, ((data15.set j14.toNat e123).set a15.toNat e124))))
 else none))
 else none))
 else none))
 else none)
 else
 (if 0 ≤ j14 ∧ j14 < (data15.length : Int) then
 (Option.bind (data15[j14.toNat]?) fun (e127 : Int × Int × Int) =>
 (if 0 ≤ i14 ∧ i14 < (data15.length : Int) then
 (Option.bind (data15[i14.toNat]?) fun (e128 : Int × Int × Int) =>
 (if 0 ≤ i14 ∧ i14 < (data15.length : Int) then
 (Option.bind (data15[i14.toNat]?) fun (e129 : Int × Int × Int) =>
 (if 0 ≤ j14 ∧ j14 < ((data15.set i14.toNat e127).length : Int) then
 (Option.bind ((data15.set i14.toNat e127)[j14.toNat]?) fun (e130 : Int × Int × Int) =>
 (if fits (i14 + 1) then (if fits (j14 - 1) then (go12 (((data15.set i14.toNat e127).set j14.toNat e128), a15, cmp15, (i14 + 1), (j14 - 1))) else none) else none))
 else none))
 else none))
 else none))
 else none)))) N (data14, a14, cmp14, i13, j13)))))
 else none))
 else none)
 else
 (iter (fun (go15 : ((List (Int × Int × Int)) × Int × Int × Int × Int) → Option (Int × Bool × (List (Int × Int × Int)))) (g : (List (Int × Int × Int)) × Int × Int × Int × Int) =>
 match g with
 | (data16, a16, cmp16, i15, j15) =>
 (bif (decide (i15 ≤ j15)) then
 (if 0 ≤ j15 ∧ j15 < (data16.length : Int) then
 (Option.bind (data16[j15.toNat]?) fun (e131 : Int × Int × Int) =>
 (if 0 ≤ a16 ∧ a16 < (data16.length : Int) then
 (Option.bind (data16[a16.toNat]?) fun (e132 : Int × Int × Int) =>
 (Option.bind (i_byAxis_1_m N e131.1 e131.2.1 e131.2.2 e132.1 e132.2.1 e132.2.2 cmp16) fun (r12 : Int) =>
 (bif (!(decide (r12 < 0))) then
 (if fits (j15 - 1) then (go15 (data16, a16, cmp16, i15, (j15 - 1))) else none)
 else
 (bif (decide (j15 < i15)) then
 (if 0 ≤ a16 ∧ a16 < (data16.length : Int) then
 (Option.bind (data16[a16.toNat]?) fun (e133 : Int × Int × Int) =>
 (if 0 ≤ j15 ∧ j15 < (data16.length : Int) then
 (Option.bind (data16[j15.toNat]?) fun (e134 : Int × Int × Int) =>
 (if 0 ≤ j15 ∧ j15 < (data16.length : Int) then
 (Option.bind (data16[j15.toNat]?) fun (e135 : Int × Int × Int) =>
 (if 0 ≤ a16 ∧ a16 < ((data16.set j15.toNat e133).length : Int) then
 (Option.bind ((data16.set j15.toNat e133)[a16.toNat]?) fun (e136 : Int × Int × Int) =>
 (some (j15, false, ((data16.set j15.toNat e133).set a16.toNat e134))))
 else none))
 else none))
 else none))
 else none)
 else
 (if 0 ≤ j15 ∧ j15 < (data16.length : Int) then
 (Option.bind (data16[j15.toNat]?) fun (e137 : Int × Int × Int) =>
 (if 0 ≤ i15 ∧ i15 < (data16.length : Int) then
 (Option.bind (data16[i15.toNat]?) fun (e138 : Int × Int × Int) =>
 (if 0 ≤ i15 ∧ i15 < (data16.length : Int) then
 (Option.bind (data16[i15.toNat]?) fun (e139 : Int × Int × Int) =>
 (if 0 ≤ j15 ∧ j15 < ((data16.set i15.toNat e137).length : Int) then
 (Option.bind ((data16.set i15.toNat e137)[j15.toNat]?) fun (e140 : Int × Int × Int) =>
 (if fits (i15 + 1) then (if fits (j15 - 1) then (go12 (((data16.set i15.toNat e137).set j15.toNat e138), a16, cmp16, (i15 + 1), (j15 - 1))) else none) else none))
 else none))
 else none))
 else none))
 else none)))))
 else none))
 else none)
 else
 (bif (decide (j15 < i15)) then
 (if 0 ≤ a16 ∧ a16 < (data16.length : Int) then
 (Option.bind (data16[a16.toNat]?) fun (e141 : Int × Int × Int) =>
 (if 0 ≤ j15 ∧ j15 < (data16.length : Int) then
 (Option.bind (data16[j15.toNat]?) fun (e142 : Int × Int × Int) =>
 (if 0 ≤ j15 ∧ j15 < (data16.length : Int) then
 (Option.bind (data16[j15.toNat]?) fun (e143 : Int × Int × Int) =>
 (if 0 ≤ a16 ∧ a16 < ((data16.set j15.toNat e141).length : Int) then
 (Option.bind ((data16.set j15.toNat e141)[a16.toNat]?) fun (e144 : Int × Int × Int) =>
 (some (j15, false, ((data16.set j15.toNat e141).set a16.toNat e142))))
 else none))
 else none))
 else none))
 else none)
 else
 (if 0 ≤ j15 ∧ j15 < (data16.length : Int) then
 (Option.bind (data16[j15.toNat]?) fun (e145 : Int × Int × Int) =>
 (if 0 ≤ i15 ∧ i15 < (data16.length : Int) then
 (Option.bind (data16[i15.toNat]?) fun (e146 : Int × Int × Int) =>
 (if 0 ≤ i15 ∧ i15 < (data16.length : Int) then
 (Option.bind (data16[i15.toNat]?) fun (e147 : Int × Int × Int) =>
 (if 0 ≤ j15 ∧ j15 < ((data16.set i15.toNat e145).length : Int) then
 (Option.bind ((data16.set i15.toNat e145)[j15.toNat]?) fun (e148 : Int × Int × Int) =>
 (if fits (i15 + 1) then (if fits (j15 - 1) then (go12 (((data16.set i15.toNat e145).set j15.toNat e146), a16, cmp16, (i15 + 1), (j15 - 1))) else none) else none))
 else none))
 else none))
 else none))
 else none)))) N (data14, a14, cmp14, i13, j13)))) N (data13, a13, cmp13, i12, j12))) N (((data12.set i11.toNat e107).set j11.toNat e108), a12, cmp12, (i11 + 1), (j11 - 1))) else none) else none))
 else none))
 else none))
 else none))
 else none)))))
 else none))
 else none)
 else
 (bif (decide (j11 < i11)) then
 (if 0 ≤ a12 ∧ a12 < (data12.length : Int) then
 (Option.bind (data12[a12.toNat]?) fun (e149 : Int × Int × Int) =>
 (if 0 ≤ j11 ∧ j11 < (data12.length : Int) then
 (Option.bind (data12[j11.toNat]?) fun (e150 : Int × Int × Int) =>
 (if 0 ≤ j11 ∧ j11 < (data12.length : Int) then
 (Option.bind (data12[j11.toNat]?) fun (e151 : Int × Int × Int) =>
 (if 0 ≤ a12 ∧ a12 < ((data12.set j11.toNat e149).length : Int) then
 (Option.bind ((data12.set j11.toNat e149)[a12.toNat]?) fun (e152 : Int × Int × Int) =>
 (some (j11, true, ((data12.set j11.toNat e149).set a12.toNat e150))))
 else none))
 else none))
 else none))
 else none)
 else
 (if 0 ≤ j11 ∧ j11 < (data12.length : Int) then
 (Option.bind (data12[j11.toNat]?) fun (e153 : Int × Int × Int) =>
 (if 0 ≤ i11 ∧ i11 < (data12.length : Int) then
 (Option.bind (data12[i11.toNat]?) fun (e154 : Int × Int × Int) =>
 (if 0 ≤ i11 ∧ i11 < (data12.length : Int) then
 (Option.bind (data12[i11.toNat]?) fun (e155 : Int × Int × Int) =>
 (if 0 ≤ j11 ∧ j11 < ((data12.set i11.toNat e153).length : Int) then
 (Option.bind ((data12.set i11.toNat e153)[j11.toNat]?) fun (e156 : Int × Int × Int) =>
 (if fits (i11 + 1) then (if fits (j11 - 1) then (iter (fun (go16 : ((List (Int × Int × Int)) × Int × Int × Int × Int) → Option (Int × Bool × (List (Int × Int × Int)))) (g : (List (Int × Int × Int)) × Int × Int × Int × Int) =>
 match g with
 | (data17, a17, cmp17, i16, j16) =>
 (iter (fun (go17 : ((List (Int × Int × Int)) × Int × Int × Int × Int) → Option (Int × Bool × (List (Int × Int × Int)))) (g : (List (Int × Int × Int)) × Int × Int × Int × Int) =>
 match g with
 | (data18, a18, cmp18, i17, j17) =>
 (bif (decide (i17 ≤ j17)) then
 (if 0 ≤ i17 ∧ i17 < (data18.length : Int) then
 (Option.bind (data18[i17.toNat]?) fun (e157 : Int × Int × Int) =>
 (if 0 ≤ a18 ∧ a18 < (data18.length : Int) then
 (Option.bind (data18[a18.toNat]?) fun (e158 : Int × Int × Int) =>
 (Option.bind (i_byAxis_1_m N e157.1 e157.2.1 e157.2.2 e158.1 e158.2.1 e158.2.2 cmp18) fun (r13 : Int) =>
 (bif (decide (r13 < 0)) then
 (if fits (i17 + 1) then (go17 (data18, a18, cmp18, (i17 + 1), j17)) else none)
 else
 (iter (fun (go18 : ((List (Int × Int × Int)) × Int × Int × Int × Int) → Option (Int × Bool × (List (Int × Int × Int)))) (g : (List (Int × Int × Int)) × Int × Int × Int × Int) =>
 match g with
 | (data19, a19, cmp19, i18, j18) =>
 (bif (decide (i18 ≤ j18)) then
 (if 0 ≤ j18 ∧ j18 < (data19.length : Int) then
 (Option.bind (data19[j18.toNat]?) fun (e159 : Int × Int × Int) =>
 (if 0 ≤ a19 ∧ a19 < (data19.length : Int) then
 (Option.bind (data19[a19.toNat]?) fun (e160 : Int × Int × Int) =>
 (Option.bind (i_byAxis_1_m N e159.1 e159.2.1 e159.2.2 e160.1 e160.2.1 e160.2.2 cmp19) fun (r14 : Int) =>
 (bif (!(decide (r14 < 0))) then
 (if fits (j18 - 1) then (go18 (data19, a19, cmp19, i18, (j18 - 1))) else none)
 else
 (bif (decide (j18 < i18)) then
 (if 0 ≤ a19 ∧ a19 < (data19.length : Int) then
 (Option.bind (data19[a19.toNat]?) fun (e161 : Int × Int × Int) =>
 (if 0 ≤ j18 ∧ j18 < (data19.length : Int) then
 (Option.bind (data19[j18.toNat]?) fun (e162 : Int × Int × Int) =>
 (if 0 ≤ j18 ∧ j18 < (data19.length : Int) then
 (Option.bind (data19[j18.toNat]?) fun (e163 : Int × Int × Int) =>
 (if 0 ≤ a19 ∧ a19 < ((data19.set j18.toNat e161).length : Int) then
 (Option.bind ((data19.set j18.toNat e161)[a19.toNat]?) fun (e164 : Int × Int × Int) =>
 (some (j18, false, ((data19.set j18.toNat e161).set a19.toNat e162))))
 else none))
 else none))
 else none))
 else none)
 else
 (if 0 ≤ j18 ∧ j18 < (data19.length : Int) then
 (Option.bind (data19[j18.toNat]?) fun (e165 : Int × Int × Int) =>
 (if 0 ≤ i18 ∧ i18 < (data19.length : Int) then
 (Option.bind (data19[i18.toNat]?) fun (e166 : Int × Int × Int) =>
 (if 0 ≤ i18 ∧ i18 < (data19.length : Int) then
 (Option.bind (data19[i18.toNat]?) fun (e167 : Int × Int × Int) =>
 (if 0 ≤ j18 ∧ j18 < ((data19.set i18.toNat e165).length : Int) then
 (Option.bind ((data19.set i18.toNat e165)[j18.toNat]?) fun (e168 : Int × Int × Int) =>
 (if fits (i18 + 1) then (if fits (j18 - 1) then (go16 (((data19.set i18.toNat e165).set j18.toNat e166), a19, cmp19, (i18 + 1), (j18 - 1))) else none) else none))
 else none))
 else none))
 else none))
 else none)))))
 else none))
 else none)
 else
 (bif (decide (j18 < i18)) then
 (if 0 ≤ a19 ∧ a19 < (data19.length : Int) then
 (Option.bind (data19[a19.toNat]?) fun (e169 : Int × Int × Int) =>
 (if 0 ≤ j18 ∧ j18 < (data19.length : Int) then
 (Option.bind (data19[j18.toNat]?) fun (e170 : Int × Int × Int) =>
 (if 0 ≤ j18 ∧ j18 < (data19.length : Int) then
 (Option.bind (data19[j18.toNat]?) fun (e171 : Int × Int × Int) =>
 (if 0 ≤ a19 ∧ a19 < ((data19.set j18.toNat e169).length : Int) then
 (Option.bind ((data19.set j18.toNat e169)[a19.toNat]?) fun (e172 : Int × Int × Int) =>
 (some (j18, false, ((data19.set j18.toNat e169).set a19.toNat e170))))
 else none))
 else none))
 else none))
 else none)
 else
 (if 0 ≤ j18 ∧ j18 < (data19.length : Int) then
 (Option.bind (data19[j18.toNat]?) fun (e173 : Int × Int × Int) =>
 (if 0 ≤ i18 ∧ i18 < (data19.length : Int) then
 (Option.bind (data19[i18.toNat]?) fun (e174 : Int × Int × Int) =>
 (if 0 ≤ i18 ∧ i18 < (data19.length : Int) then
 (Option.bind (data19[i18.toNat]?) fun (e175 : Int × Int × Int) =>
 (if 0 ≤ j18 ∧ j18 < ((data19.set i18.toNat e173).length : Int) then
 (Option.bind ((data19.set i18.toNat e173)[j18.toNat]?) fun (e176 : Int × Int × Int) =>
 (if fits (i18 + 1) then (if fits (j18 - 1) then (go16 (((data19.set i18.toNat e173).set j18.toNat e174), a19, cmp19, (i18 + 1), (j18 - 1))) else none) else none))
 else none))
 else none))
 else none))
 else none)))) N (data18, a18, cmp18, i17, j17)))))
 else none))
 else none)
 else
 (iter (fun (go19 : ((List (Int × Int × Int)) × Int × Int × Int × Int) → Option (Int × Bool × (List (Int × Int × Int)))) (g : (List (Int × Int × Int)) × Int × Int × Int × Int) =>
 match g with
 | (data20, a20, cmp20, i19, j19) =>
 (bif (decide (i19 ≤ j19)) then
 (if 0 ≤ j19 ∧ j19 < (data20.length : Int) then
 (Option.bind (data20[j19.toNat]?) fun (e177 : Int × Int × Int) =>
 (if 0 ≤ a20 ∧ a20 < (data20.length : Int) then
 (Option.bind (data20[a20.toNat]?) fun (e178 : Int × Int × Int) =>
 (Option.bind (i_byAxis_1_m N e177.1 e177.2.1 e177.2.2 e178.1 e178.2.1 e178.2.2 cmp20) fun (r15 : Int) =>
 (bif (!(decide (r15 < 0))) then
 (if fits (j19 - 1) then (go19 (data20, a20, cmp20, i19, (j19 - 1))) else none)
 else
 (bif (decide (j19 < i19)) then
 (if 0 ≤ a20 ∧ a20 < (data20.length : Int) then
 (Option.bind (data20[a20.toNat]?) fun (e179 : Int × Int × Int) =>
 (if 0 ≤ j19 ∧ j19 < (data20.length : Int) then
 (Option.bind (data20[j19.toNat]?) fun (e180 : Int × Int × Int) =>
 (if 0 ≤ j19 ∧ j19 < (data20.length : Int) then
 (Option.bind (data20[j19.toNat]?) fun (e181 : Int × Int × Int) =>
 (if 0 ≤ a20 ∧ a20 < ((data20.set j19.toNat e179).length : Int) then
 (Option.bind ((data20.set j19.toNat e179)[a20.toNat]?) fun (e182 : Int × Int × Int) =>
 (some (j19, false, ((data20.set j19.toNat e179).set a20.toNat e180))))
 else none))
 else none))
 else none))
 else none)
 else
 (if 0 ≤ j19 ∧ j19 < (data20.length : Int) then
 (Option.bind (data20[j19.toNat]?) fun (e183 : Int × Int × Int) =>
 (if 0 ≤ i19 ∧ i19 < (data20.length : Int) then
 (Option.bind (data20[i19.toNat]?) fun (e184 : Int × Int × Int) =>
 (if 0 ≤ i19 ∧ i19 < (data20.length : Int) then
 (Option.bind (data20[i19.toNat]?) fun (e185 : Int × Int × Int) =>
 (if 0 ≤ j19 ∧ j19 < ((data20.set i19.toNat e183).length : Int) then
 (Option.bind ((data20.set i19.toNat e183)[j19.toNat]?) fun (e186 : Int × Int × Int) =>
 (if fits (i19 + 1) then (if fits (j19 - 1) then (go16 (((data20.set i19.toNat e183).set j19.toNat e184), a20, cmp20, (i19 + 1), (j19 - 1))) else none) else none))
 else none))
 else none))
 else none))
 else none)))))
 else none))
 else none)
 else
 (bif (decide (j19 < i19)) then
 (if 0 ≤ a20 ∧ a20 < (data20.length : Int) then
 (Option.bind (data20[a20.toNat]?) fun (e187 : Int × Int × Int) =>
 (if 0 ≤ j19 ∧ j19 < (data20.length : Int) then
 (Option.bind (data20[j19.toNat]?) fun (e188 : Int × Int × Int) =>
 (if 0 ≤ j19 ∧ j19 < (data20.length : Int) then
 (Option.bind (data20[j19.toNat]?) fun (e189 : Int × Int × Int) =>
 (if 0 ≤ a20 ∧ a20 < ((data20.set j19.toNat e187).length : Int) then
 (Option.bind ((data20.set j19.toNat e187)[a20.toNat]?) fun (e190 : Int × Int × Int) =>
 (some (j19, false, ((data20.set j19.toNat e187).set a20.toNat e188))))
 else none))
 else none))
 else none))
 else none)
 else
 (if 0 ≤ j19 ∧ j19 < (data20.length : Int) then
 (Option.bind (data20[j19.toNat]?) fun (e191 : Int × Int × Int) =>
 (if 0 ≤ i19 ∧ i19 < (data20.length : Int) then
 (Option.bind (data20[i19.toNat]?) fun (e192 : Int × Int × Int) =>
 (if 0 ≤ i19 ∧ i19 < (data20.length : Int) then
 (Option.bind (data20[i19.toNat]?) fun (e193 : Int × Int × Int) =>
 (if 0 ≤ j19 ∧ j19 < ((data20.set i19.toNat e191).length : Int) then
 (Option.bind ((data20.set i19.toNat e191)[j19.toNat]?) fun (e194 : Int × Int × Int) =>
 (if fits (i19 + 1) then (if fits (j19 - 1) then (go16 (((data20.set i19.toNat e191).set j19.toNat e192), a20, cmp20, (i19 + 1), (j19 - 1))) else none) else none))
 else none))
 else none))
 else none))
 else none)))) N (data18, a18, cmp18, i17, j17)))) N (data17, a17, cmp17, i16, j16))) N (((data12.set i11.toNat e153).set j11.toNat e154), a12, cmp12, (i11 + 1), (j11 - 1))) else none) else none))
 else none))
 else none))
 else none))
 else none)))) N (data2, a2, cmp2, i, j)))) N (((data.set a.toNat e).set pivot.toNat e2), a, cmp, (a + 1), (b - 1))) else none) else none))
 else none))
 else none))
 else none))
 else none)
def k_slices_partitionCmpFunc_739_M (N : Nat) : Model := ⟨k_slices_partitionCmpFunc_739_arg, k_slices_partitionCmpFunc_739_ret, fun a => k_slices_partitionCmpFunc_739_m N a.1 a.2.1 a.2.2.1 a.2.2.2.1 a.2.2.2.2⟩
set_option maxRecDepth 1000000 in
theorem k_slices_partitionCmpFunc_739_ok (N : Nat) : ModelOk Try.prog 96 (k_slices_partitionCmpFunc_739_M N) :=
  modelOk_of (E := mkEnv [(85, i_byAxis_1_M N)] [] [800000]) (mkEnv_ok (fnsOk_cons (i_byAxis_1_ok N) fnsOk_nil) _ _) Try.func96 (by kernel_rfl) rfl N k_slices_partitionCmpFunc_739_h (k_slices_partitionCmpFunc_739_M N) (by kernel_rfl) (by kernel_rfl) (fun a => by kernel_rfl)
/-! slices.pdqsortCmpFunc[loop.example/fossick/impl.Point] -/
def k_slices_pdqsortCmpFunc_286_arg : Sh := ⟨[.mtk 800000 (.pair (.int .i64) (.pair (.int .i64) (.int .i64))) 36 true, .pv (.int .i64), .pv (.int .i64), .pv (.int .i64), .clo 85 [.ptr (.int .i64)]], []⟩
def k_slices_pdqsortCmpFunc_286_ret : Sh := ⟨[.tup [], .mtk 800000 (.pair (.int .i64) (.pair (.int .i64) (.int .i64))) 36 true], []⟩
def k_slices_pdqsortCmpFunc_286_s1 : Sh := ⟨[.mtk 800000 (.pair (.int .i64) (.pair (.int .i64) (.int .i64))) 36 true, .pv (.int .i64), .pv (.int .i64), .pv (.int .i64), .clo 85 [.ptr (.int .i64)], .dead, .dead, .dead, .dead, .dead, .pv .bool, .pv .bool, .dead, .dead, .dead, .dead, .dead, .dead, .dead, .dead, .dead, .dead, .dead, .dead, .dead, .dead, .dead, .dead, .dead, .dead, .dead, .dead, .dead, .dead, .dead, .dead, .dead, .dead, .dead, .dead, .dead, .dead, .dead, .dead, .dead, .dead, .dead, .dead, .dead, .dead, .dead, .dead, .dead, .dead, .dead, .dead, .dead, .dead, .dead, .dead, .dead, .dead, .dead, .dead, .dead, .dead, .dead, .dead, .dead, .dead, .dead, .dead, .dead, .dead, .dead, .dead, .dead, .dead, .dead, .dead, .dead, .dead, .dead, .dead, .dead, .dead, .dead, .dead, .dead, .dead, .dead, .dead, .dead, .dead, .dead, .dead, .dead, .dead, .dead, .dead, .dead, .dead, .dead, .dead, .dead, .dead, .dead, .dead, .dead, .dead, .dead, .dead, .dead, .dead, .dead, .dead, .dead, .dead, .dead, .dead, .dead, .dead, .dead, .dead, .dead, .dead, .dead, .dead, .dead, .dead, .dead, .dead, .dead, .dead, .dead, .dead, .dead, .dead, .dead, .dead, .dead, .dead, .dead, .dead, .dead, .dead, .dead, .dead], []⟩
def k_slices_pdqsortCmpFunc_286_s2 : Sh := ⟨[.mtk 800000 (.pair (.int .i64) (.pair (.int .i64) (.int .i64))) 36 true, .pv (.int .i64), .pv (.int .i64), .pv (.int .i64), .clo 85 [.ptr (.int .i64)], .dead, .dead, .dead, .dead, .dead, .pv .bool, .pv .bool, .pv (.int .i64), .pv (.int .i64), .dead, .dead, .dead, .dead, .dead, .dead, .dead, .dead, .dead, .dead, .dead, .dead, .dead, .dead, .dead, .dead, .dead, .dead, .dead, .dead, .dead, .dead, .dead, .dead, .dead, .dead, .dead, .dead, .dead, .dead, .dead, .dead, .dead, .dead, .dead, .dead, .dead, .dead, .dead, .dead, .dead, .dead, .dead, .dead, .dead, .dead, .dead, .dead, .dead, .dead, .dead, .dead, .dead, .dead, .dead, .dead, .dead, .dead, .dead, .dead, .dead, .dead, .dead, .dead, .dead, .dead, .dead, .dead, .dead, .dead, .dead, .dead, .dead, .dead, .dead, .dead, .dead, .dead, .dead, .dead, .dead, .dead, .dead, .dead, .dead, .dead, .dead, .dead, .dead, .dead, .dead, .dead, .dead, .dead, .dead, .dead, .dead, .dead, .dead, .dead, .dead, .dead, .dead, .dead, .dead, .dead, .dead, .dead, .dead, .dead, .dead, .dead, .dead, .dead, .dead, .dead, .dead, .dead, .dead, .dead, .dead, .dead, .dead, .dead, .dead, .dead, .dead, .dead, .dead, .dead, .dead, .dead, .dead, .dead], []⟩
def k_slices_pdqsortCmpFunc_286_s3 : Sh := ⟨[.mtk 800000 (.pair (.int .i64) (.pair (.int .i64) (.int .i64))) 36 true, .pv (.int .i64), .pv (.int .i64), .pv (.int .i64), .clo 85 [.ptr (.int .i64)], .dead, .dead, .dead, .dead, .dead, .pv .bool, .pv .bool, .pv (.int .i64), .pv (.int .i64), .pv (.int .i64), .dead, .dead, .dead, .dead, .dead, .dead, .dead, .dead, .dead, .dead, .dead, .dead, .dead, .dead, .dead, .dead, .dead, .dead, .dead, .dead, .dead, .dead, .dead, .dead, .dead, .dead, .dead, .dead, .dead, .dead, .dead, .dead, .dead, .dead, .dead, .dead, .dead, .dead, .dead, .dead, .dead, .dead, .dead, .dead, .dead, .dead, .dead, .dead, .dead, .dead, .dead, .dead, .dead, .dead, .dead, .dead, .dead, .dead, .dead, .dead, .dead, .dead, .dead, .dead, .dead, .dead, .dead, .dead, .dead, .dead, .dead, .dead, .dead, .dead, .dead, .dead, .dead, .dead, .dead, .dead, .dead, .dead, .dead, .dead, .dead, .dead, .dead, .dead, .dead, .dead, .dead, .dead, .dead, .dead, .dead, .dead, .dead, .dead, .dead, .dead, .dead, .dead, .dead, .dead, .dead, .dead, .dead, .dead, .dead, .dead, .dead, .dead, .dead, .dead, .dead, .dead, .dead, .dead, .dead, .dead, .dead, .dead, .dead, .dead, .dead, .dead, .dead, .dead, .dead, .dead, .dead, .dead, .dead], []⟩
def k_slices_pdqsortCmpFunc_286_s4 : Sh := ⟨[.mtk 800000 (.pair (.int .i64) (.pair (.int .i64) (.int .i64))) 36 true, .pv (.int .i64), .pv (.int .i64), .pv (.int .i64), .clo 85 [.ptr (.int .i64)], .dead, .dead, .dead, .dead, .dead, .pv .bool, .pv .bool, .pv (.int .i64), .dead, .dead, .dead, .dead, .dead, .dead, .dead, .dead, .dead, .dead, .dead, .dead, .dead, .dead, .dead, .dead, .dead, .dead, .dead, .dead, .dead, .dead, .dead, .dead, .dead, .dead, .dead, .dead, .dead, .dead, .dead, .dead, .dead, .dead, .dead, .dead, .dead, .dead, .dead, .dead, .dead, .dead, .dead, .dead, .dead, .dead, .dead, .dead, .dead, .dead, .dead, .dead, .dead, .dead, .dead, .dead, .dead, .dead, .dead, .dead, .dead, .dead, .dead, .dead, .dead, .dead, .dead, .dead, .dead, .dead, .dead, .dead, .dead, .dead, .dead, .dead, .dead, .dead, .dead, .dead, .dead, .dead, .dead, .dead, .dead, .dead, .dead, .dead, .dead, .dead, .dead, .dead, .dead, .dead, .dead, .dead, .dead, .dead, .dead, .dead, .dead, .dead, .dead, .dead, .dead, .dead, .dead, .dead, .dead, .dead, .dead, .dead, .dead, .dead, .dead, .dead, .dead, .dead, .dead, .dead, .dead, .dead, .dead, .dead, .dead, .dead, .dead, .dead, .dead, .dead, .dead, .dead, .dead, .dead, .dead], []⟩
def k_slices_pdqsortCmpFunc_286_h : Hint := (.seq .no (.seq .no (.block (.loop k_slices_pdqsortCmpFunc_286_s1 (.block (.seq .no (.seq .no (.seq .no (.meet k_slices_pdqsortCmpFunc_286_s4 .no (.seq .no (.meet k_slices_pdqsortCmpFunc_286_s3 .no (.meet k_slices_pdqsortCmpFunc_286_s2 .no .no))))))))))))
def k_slices_pdqsortCmpFunc_286_m (N : Nat) : (D : Nat) → (List (Int × Int × Int)) → Int → Int → Int → Int → Option ((List (Int × Int × Int)))
 | 0, _, _, _, _, _ => none
 | D + 1, data, a, b, limit, cmp =>
 (iter (fun (go : ((List (Int × Int × Int)) × Int × Int × Int × Int × Bool × Bool) → Option ((List (Int × Int × Int)))) (g : (List (Int × Int × Int)) × Int × Int × Int × Int × Bool × Bool) =>
 match g with
 | (data2, a2, b2, limit2, cmp2, wasBalanced, wasPartitioned) =>
 (if fits (b2 - a2) then (bif (decide ((b2 - a2) ≤ 12)) then
 (Option.bind (k_slices_insertionSortCmpFunc_647_m N data2 a2 b2 cmp2) fun (r : (List (Int × Int × Int))) =>
 (some r))
 else
 (bif (decide (limit2 = 0)) then
 (Option.bind (k_slices_heapSortCmpFunc_709_m N data2 a2 b2 cmp2) fun (r2 : (List (Int × Int × Int))) =>
 (some r2))
 else
 (meet (fun (g : (List (Int × Int × Int)) × Int × Int × Int × Int × Bool × Bool × Int) =>
 match g with
 | (data3, a3, b3, limit3, cmp3, wasBalanced2, wasPartitioned2, length) =>
 (Option.bind (k_slices_choosePivotCmpFunc_455_m N data3 a3 b3 cmp3) fun (r4 : Int × Int × (List (Int × Int × Int))) =>
 (meet (fun (g : (List (Int × Int × Int)) × Int × Int × Int × Int × Bool × Bool × Int × Int × Int) =>
 match g with
 | (data4, a4, b4, limit4, cmp4, wasBalanced3, wasPartitioned3, length2, pivot, hint) =>
 (meet (fun (g : (List (Int × Int × Int)) × Int × Int × Int × Int × Bool × Bool × Int × Int) =>
 match g with
 | (data5, a5, b5, limit5, cmp5, wasBalanced4, wasPartitioned4, length3, pivot2) =>
 (bif (decide ((0 : Int) < a5)) then
 (if fits (a5 - 1) then (if 0 ≤ (a5 - 1) ∧ (a5 - 1) < (data5.length : Int) then
 (Option.bind (data5[(a5 - 1).toNat]?) fun (e : Int × Int × Int) =>
 (if 0 ≤ pivot2 ∧ pivot2 < (data5.length : Int) then
 (Option.bind (data5[pivot2.toNat]?) fun (e2 : Int × Int × Int) =>
 (Option.bind (i_byAxis_1_m N e.1 e.2.1 e.2.2 e2.1 e2.2.1 e2.2.2 cmp5) fun (r7 : Int) =>
 (bif (!(decide (r7 < 0))) then
 (Option.bind (k_slices_partitionEqualCmpFunc_880_m N data5 a5 b5 pivot2 cmp5) fun (r8 : Int × (List (Int × Int × Int))) =>
 (go (r8.2, r8.1, b5, limit5, cmp5, wasBalanced4, wasPartitioned4)))
 else
 (Option.bind (k_slices_partitionCmpFunc_739_m N data5 a5 b5 pivot2 cmp5) fun (r9 : Int × Bool × (List (Int × Int × Int))) =>
 (if fits (r9.1 - a5) then (if fits (b5 - r9.1) then (if 8 ≠ 0 then
 (if fits (length3.tdiv 8) then (bif (decide ((r9.1 - a5) < (b5 - r9.1))) then
 (Option.bind (k_slices_pdqsortCmpFunc_286_m N D r9.2.2 a5 r9.1 limit5 cmp5) fun (r10 : (List (Int × Int × Int))) =>
 (if fits (r9.1 + 1) then (go (r10, (r9.1 + 1), b5, limit5, cmp5, (decide ((length3.tdiv 8) ≤ (r9.1 - a5))), r9.2.1)) else none))
 else
 (if fits (r9.1 + 1) then (Option.bind (k_slices_pdqsortCmpFunc_286_m N D r9.2.2 (r9.1 + 1) b5 limit5 cmp5) fun (r11 : (List (Int × Int × Int))) =>
 (go (r11, a5, r9.1, limit5, cmp5, (decide ((length3.tdiv 8) ≤ (b5 - r9.1))), r9.2.1))) else none)) else none)
 else none) else none) else none)))))
 else none))
 else none) else none)
 else
 (Option.bind (k_slices_partitionCmpFunc_739_m N data5 a5 b5 pivot2 cmp5) fun (r12 : Int × Bool × (List (Int × Int × Int))) =>
 (if fits (r12.1 - a5) then (if fits (b5 - r12.1) then (if 8 ≠ 0 then
 (if fits (length3.tdiv 8) then (bif (decide ((r12.1 - a5) < (b5 - r12.1))) then
 (Option.bind (k_slices_pdqsortCmpFunc_286_m N D r12.2.2 a5 r12.1 limit5 cmp5) fun (r13 : (List (Int × Int × Int))) =>
 (if fits (r12.1 + 1) then (go (r13, (r12.1 + 1), b5, limit5, cmp5, (decide ((length3.tdiv 8) ≤ (r12.1 - a5))), r12.2.1)) else none))
 else
 (if fits (r12.1 + 1) then (Option.bind (k_slices_pdqsortCmpFunc_286_m N D r12.2.2 (r12.1 + 1) b5 limit5 cmp5) fun (r14 : (List (Int × Int × Int))) =>
 (go (r14, a5, r12.1, limit5, cmp5, (decide ((length3.tdiv 8) ≤ (b5 - r12.1))), r12.2.1))) else none)) else none)
 else none) else none) else none)))) fun (J3 : ((List (Int × Int × Int)) × Int × Int × Int × Int × Bool × Bool × Int × Int) → Option ((List (Int × Int × Int)))) =>
 (bif wasBalanced3 then
 (bif wasPartitioned3 then
 (bif (decide (hint = 1)) then
 (Option.bind (k_slices_partialInsertionSortCmpFunc_645_m N data4 a4 b4 cmp4) fun (r6 : Bool × (List (Int × Int × Int))) =>
 (bif r6.1 then
 (some r6.2)
 else
 (J3 (r6.2, a4, b4, limit4, cmp4, wasBalanced3, wasPartitioned3, length2, pivot))))
 else
 (J3 (data4, a4, b4, limit4, cmp4, wasBalanced3, wasPartitioned3, length2, pivot)))
 else
 (J3 (data4, a4, b4, limit4, cmp4, wasBalanced3, wasPartitioned3, length2, pivot)))
 else
 (J3 (data4, a4, b4, limit4, cmp4, wasBalanced3, wasPartitioned3, length2, pivot))))) fun (J2 : ((List (Int × Int × Int)) × Int × Int × Int × Int × Bool × Bool × Int × Int × Int) → Option ((List (Int × Int × Int)))) =>
 (bif (decide (r4.2.1 = 2)) then
 (Option.bind (k_slices_reverseRangeCmpFunc_484_m N r4.2.2 a3 b3 cmp3) fun (r5 : (List (Int × Int × Int))) =>
 (if fits (b3 - 1) then (if fits (r4.1 - a3) then (if fits ((b3 - 1) - (r4.1 - a3)) then (J2 (r5, a3, b3, limit3, cmp3, wasBalanced2, wasPartitioned2, length, ((b3 - 1) - (r4.1 - a3)), 1)) else none) else none) else none))
 else
 (J2 (r4.2.2, a3, b3, limit3, cmp3, wasBalanced2, wasPartitioned2, length, r4.1, r4.2.1)))))) fun (J : ((List (Int × Int × Int)) × Int × Int × Int × Int × Bool × Bool × Int) → Option ((List (Int × Int × Int)))) =>
 (bif (!wasBalanced) then
 (Option.bind (k_slices_breakPatternsCmpFunc_393_m N data2 a2 b2 cmp2) fun (r3 : (List (Int × Int × Int))) =>
 (if fits (limit2 - 1) then (J (r3, a2, b2, (limit2 - 1), cmp2, wasBalanced, wasPartitioned, (b2 - a2))) else none))
 else
 (J (data2, a2, b2, limit2, cmp2, wasBalanced, wasPartitioned, (b2 - a2))))))) else none)) N (data, a, b, limit, cmp, true, true))
def k_slices_pdqsortCmpFunc_286_M (N D : Nat) : Model := ⟨k_slices_pdqsortCmpFunc_286_arg, k_slices_pdqsortCmpFunc_286_ret, fun a => k_slices_pdqsortCmpFunc_286_m N D a.1 a.2.1 a.2.2.1 a.2.2.2.1 a.2.2.2.2⟩
set_option maxRecDepth 1000000 in
theorem k_slices_pdqsortCmpFunc_286_step (N D : Nat) (ih : ModelOk Try.prog 84 (k_slices_pdqsortCmpFunc_286_M N D)) : ModelOk Try.prog 84 (k_slices_pdqsortCmpFunc_286_M N (D + 1)) :=
  modelOk_of (E := mkEnv [(84, k_slices_pdqsortCmpFunc_286_M N D), (89, k_slices_insertionSortCmpFunc_647_M N), (90, k_slices_heapSortCmpFunc_709_M N), (91, k_slices_breakPatternsCmpFunc_393_M N), (92, k_slices_choosePivotCmpFunc_455_M N), (93, k_slices_reverseRangeCmpFunc_484_M N), (94, k_slices_partialInsertionSortCmpFunc_645_M N), (85, i_byAxis_1_M N), (95, k_slices_partitionEqualCmpFunc_880_M N), (96, k_slices_partitionCmpFunc_739_M N)] [] [800000]) (mkEnv_ok (fnsOk_cons ih (fnsOk_cons (k_slices_insertionSortCmpFunc_647_ok N) (fnsOk_cons (k_slices_heapSortCmpFunc_709_ok N) (fnsOk_cons (k_slices_breakPatternsCmpFunc_393_ok N) (fnsOk_cons (k_slices_choosePivotCmpFunc_455_ok N) (fnsOk_cons (k_slices_reverseRangeCmpFunc_484_ok N) (fnsOk_cons (k_slices_partialInsertionSortCmpFunc_645_ok N) (fnsOk_cons (i_byAxis_1_ok N) (fnsOk_cons (k_slices_partitionEqualCmpFunc_880_ok N) (fnsOk_cons (k_slices_partitionCmpFunc_739_ok N) fnsOk_nil)))))))))) _ _) Try.func84 (by kernel_rfl) rfl N k_slices_pdqsortCmpFunc_286_h (k_slices_pdqsortCmpFunc_286_M N (D + 1)) (by kernel_rfl) (by kernel_rfl) (fun a => by kernel_rfl)
theorem k_slices_pdqsortCmpFunc_286_ok (N : Nat) : ∀ D, ModelOk Try.prog 84 (k_slices_pdqsortCmpFunc_286_M N D)
  | 0 => modelOk_none ⟨_, Try.func84, by decide, by kernel_rfl⟩ _ (fun a => rfl)
  | D + 1 => k_slices_pdqsortCmpFunc_286_step N D (k_slices_pdqsortCmpFunc_286_ok N D)
/-! slices.SortFunc[[]loop.example/fossick/impl.Point,loop.example/fossick/impl.Point] -/
def k_slices_SortFunc_922_arg : Sh := ⟨[.mtk 800000 (.pair (.int .i64) (.pair (.int .i64) (.int .i64))) 36 true, .clo 85 [.ptr (.int .i64)]], []⟩
def k_slices_SortFunc_922_ret : Sh := ⟨[.tup [], .mtk 800000 (.pair (.int .i64) (.pair (.int .i64) (.int .i64))) 36 true], []⟩
def k_slices_SortFunc_922_h : Hint := .no
def k_slices_SortFunc_922_m (N : Nat) (x : List (Int × Int × Int)) (cmp : Int) : Option ((List (Int × Int × Int))) :=
 (Option.bind (k_math_bits_Len_m N (IntKind.u64.wrap (x.length : Int))) fun (r : Int) =>
 (Option.bind (k_slices_pdqsortCmpFunc_286_m N N x 0 (x.length : Int) r cmp) fun (r2 : (List (Int × Int × Int))) =>
 (some r2)))
def k_slices_SortFunc_922_M (N : Nat) : Model := ⟨k_slices_SortFunc_922_arg, k_slices_SortFunc_922_ret, fun a => k_slices_SortFunc_922_m N a.1 a.2⟩
set_option maxRecDepth 1000000 in
theorem k_slices_SortFunc_922_ok (N : Nat) : ModelOk Try.prog 75 (k_slices_SortFunc_922_M N) :=
  modelOk_of (E := mkEnv [(49, k_math_bits_Len_M N), (84, k_slices_pdqsortCmpFunc_286_M N N)] [] [800000]) (mkEnv_ok (fnsOk_cons (k_math_bits_Len_ok N) (fnsOk_cons (k_slices_pdqsortCmpFunc_286_ok N N) fnsOk_nil)) _ _) Try.func75 (by kernel_rfl) rfl N k_slices_SortFunc_922_h (k_slices_SortFunc_922_M N) (by kernel_rfl) (by kernel_rfl) (fun a => by kernel_rfl)
/-! loop.example/fossick/impl.knots -/
def i_knots_arg : Sh := ⟨[.pv (.sl (.pair (.int .i64) (.pair (.int .i64) (.int .i64)))), .pv (.int .i64)], []⟩
def i_knots_ret : Sh := ⟨[.own 1 (.pair (.pair (.int .i64) (.pair (.int .i64) (.int .i64))) (.pair (.int .i64) (.pair (.int .i64) (.pair (.int .i64) (.pair (.int .i64) (.int .i64)))))) 38 true], []⟩
def i_knots_s1 : Sh := ⟨[.dead, .pv (.int .i64), .dead, .dead, .dead, .pv (.sl (.pair (.int .i64) (.pair (.int .i64) (.int .i64)))), .pv (.int .i64), .dead, .box 8 0, .dead, .dead, .dead, .dead, .dead, .dead, .dead, .dead, .dead, .dead, .dead, .dead, .dead, .dead, .dead, .dead, .dead, .dead, .dead, .dead, .dead, .dead, .dead, .dead, .dead, .dead, .dead, .dead, .dead, .dead, .dead, .dead, .dead, .pv (.sl (.pair (.int .i64) (.pair (.int .i64) (.int .i64)))), .pv (.int .i64), .pv (.int .i64), .dead, .dead, .dead, .dead, .dead, .dead, .dead, .dead, .dead, .dead, .dead, .dead, .dead, .dead, .dead, .dead, .dead, .dead, .dead, .dead, .dead, .dead, .dead, .dead, .dead, .dead, .dead, .dead, .dead, .dead, .dead, .dead, .dead, .dead, .dead, .dead, .dead, .dead, .dead, .dead, .dead, .dead, .dead, .dead, .dead, .dead, .dead, .dead], [(8, false, [.pv (.int .i64), .pv (.int .i64), .pv (.int .i64), .pv (.int .i64), .pv (.int .i64), .pv (.int .i64), .pv (.int .i64), .pv (.int .i64)])]⟩
def i_knots_h : Hint := (.seq .no (.seq .no (.seq .no (.seq .no (.seq .no (.seq .no (.seq .no (.seq (.seq .no (.block (.loop i_knots_s1 .no))) .no))))))))
def i_knots_m (N : Nat) : (D : Nat) → (List (Int × Int × Int)) → Int → Option ((List ((Int × Int × Int) × Int × Int × Int × Int × Int)))
 | 0, _, _ => none
 | D + 1, list, level =>
 (bif (decide ((list.length : Int) = 0)) then
 (some ([] : List ((Int × Int × Int) × Int × Int × Int × Int × Int)))
 else
 (if room ([] : List (Int × Int × Int)).length list.length 24 then
 (Option.bind (i_byAxis_m N level) fun (r : Int) =>
 (Option.bind (k_slices_SortFunc_922_m N (([] : List (Int × Int × Int)) ++ list) r) fun (r2 : (List (Int × Int × Int))) =>
 (if 2 ≠ 0 then
 (if fits ((r2.length : Int).tdiv 2) then (if 0 ≤ ((r2.length : Int).tdiv 2) ∧ ((r2.length : Int).tdiv 2) < (r2.length : Int) then
 (Option.bind (r2[((r2.length : Int).tdiv 2).toNat]?) fun (e : Int × Int × Int) =>
 (iter (fun (go : (Int × (List (Int × Int × Int)) × Int × (List (Int × Int × Int)) × Int × Int × Int × Int × Int × Int × Int × Int × Int × Int) → Option ((List ((Int × Int × Int) × Int × Int × Int × Int × Int)))) (g : Int × (List (Int × Int × Int)) × Int × (List (Int × Int × Int)) × Int × Int × Int × Int × Int × Int × Int × Int × Int × Int) =>
 match g with
 | (level2, points, left, t42, t43, t44, k, k2, k3, k4, k5, k6, k7, k8) =>
 (bif (decide (t44 < t43)) then
 (Option.bind (idx t42 t44) fun (e2 : Int × Int × Int) =>
 (if fits (t44 + 1) then (go (level2, points, left, t42, t43, (t44 + 1), k, k2, k3, k4, (if e2.2.1 < k5 then e2.2.1 else k5), (if e2.2.1 > k6 then e2.2.1 else k6), (if e2.2.2 < k7 then e2.2.2 else k7), (if e2.2.2 > k8 then e2.2.2 else k8))) else none))
 else
 (Option.bind (cut points 0 left) fun (y : List (Int × Int × Int)) =>
 (if fits (level2 + 1) then (Option.bind (i_knots_m N D y (level2 + 1)) fun (r3 : (List ((Int × Int × Int) × Int × Int × Int × Int × Int))) =>
 (if room ([((k, k2, k3), k4, k5, k6, k7, k8)] : List ((Int × Int × Int) × Int × Int × Int × Int × Int)).length r3.length 64 then
 (if fits (left + 1) then (Option.bind (cut points (left + 1) (points.length : Int)) fun (y2 : List (Int × Int × Int)) =>
 (if fits (level2 + 1) then (Option.bind (i_knots_m N D y2 (level2 + 1)) fun (r4 : (List ((Int × Int × Int) × Int × Int × Int × Int × Int))) =>
 (if room (([((k, k2, k3), k4, k5, k6, k7, k8)] : List ((Int × Int × Int) × Int × Int × Int × Int × Int)) ++ r3).length r4.length 64 then
 (some ((([((k, k2, k3), k4, k5, k6, k7, k8)] : List ((Int × Int × Int) × Int × Int × Int × Int × Int)) ++ r3) ++ r4))
 else none)) else none)) else none)
 else none)) else none)))) N (level, r2, ((r2.length : Int).tdiv 2), r2, (r2.length : Int), 0, e.1, e.2.1, e.2.2, ((r2.length : Int).tdiv 2), e.2.1, e.2.1, e.2.2, e.2.2)))
 else none) else none)
 else none)))
 else none))
def i_knots_M (N D : Nat) : Model := ⟨i_knots_arg, i_knots_ret, fun a => i_knots_m N D a.1 a.2⟩
set_option maxRecDepth 1000000 in
theorem i_knots_step (N D : Nat) (ih : ModelOk Try.prog 55 (i_knots_M N D)) : ModelOk Try.prog 55 (i_knots_M N (D + 1)) :=
  modelOk_of (E := mkEnv [(55, i_knots_M N D), (76, i_byAxis_M N), (75, k_slices_SortFunc_922_M N)] [15, 16, 18, 76, 83, 92] []) (mkEnv_ok (fnsOk_cons ih (fnsOk_cons (i_byAxis_ok N) (fnsOk_cons (k_slices_SortFunc_922_ok N) fnsOk_nil))) _ _) Try.func55 (by kernel_rfl) rfl N i_knots_h (i_knots_M N (D + 1)) (by kernel_rfl) (by kernel_rfl) (fun a => by kernel_rfl)
theorem i_knots_ok (N : Nat) : ∀ D, ModelOk Try.prog 55 (i_knots_M N D)
  | 0 => modelOk_none ⟨_, Try.func55, by decide, by kernel_rfl⟩ _ (fun a => rfl)
  | D + 1 => i_knots_step N D (i_knots_ok N D)
/-! loop.example/fossick/impl.KnotsOf -/
def i_KnotsOf_arg : Sh := ⟨[.pv (.sl (.pair (.int .i64) (.pair (.int .i64) (.int .i64))))], []⟩
def i_KnotsOf_ret : Sh := ⟨[.own 1 (.pair (.pair (.int .i64) (.pair (.int .i64) (.int .i64))) (.pair (.int .i64) (.pair (.int .i64) (.pair (.int .i64) (.pair (.int .i64) (.int .i64)))))) 38 true], []⟩
def i_KnotsOf_s1 : Sh := ⟨[.pv (.sl (.pair (.int .i64) (.pair (.int .i64) (.int .i64)))), .dead, .dead, .box 1000000006 0, .dead, .dead, .dead, .pv (.sl (.pair (.int .i64) (.pair (.int .i64) (.int .i64)))), .pv (.int .i64), .pv (.int .i64), .dead, .dead, .dead, .dead, .dead, .dead, .dead, .dead, .dead, .dead, .dead, .dead, .dead, .dead, .dead, .dead, .dead, .dead, .dead, .dead, .dead, .dead, .dead, .dead, .dead, .dead, .dead, .dead, .dead, .dead, .dead, .dead, .dead, .dead, .dead, .dead], [(1000000006, false, [.pv (.sl (.pair (.int .i64) .bool))])]⟩
def i_KnotsOf_h : Hint := (.seq .no (.seq .no (.seq (.seq .no (.block (.loop i_KnotsOf_s1 .no))) .no)))
def i_KnotsOf_m (N : Nat) (list : List (Int × Int × Int)) : Option ((List ((Int × Int × Int) × Int × Int × Int × Int × Int))) :=
 (iter (fun (go : ((List (Int × Int × Int)) × (List (Int × Int × Int)) × Int × Int × (List (Int × Bool))) → Option ((List ((Int × Int × Int) × Int × Int × Int × Int × Int)))) (g : (List (Int × Int × Int)) × (List (Int × Int × Int)) × Int × Int × (List (Int × Bool))) =>
 match g with
 | (list2, t7, t8, t9, b) =>
 (bif (decide (t9 < t8)) then
 (Option.bind (idx t7 t9) fun (e : Int × Int × Int) =>
 (Option.bind (i_within_m N e.1 1 9999) fun (r : Bool) =>
 (bif (!r) then
 (some ([] : List ((Int × Int × Int) × Int × Int × Int × Int × Int)))
 else
 (bif ((mget (.int .i64) .bool b e.1).getD false) then
 (some ([] : List ((Int × Int × Int) × Int × Int × Int × Int × Int)))
 else
 (Option.bind (i_within_m N e.2.1 0 999) fun (r2 : Bool) =>
 (bif (!r2) then
 (some ([] : List ((Int × Int × Int) × Int × Int × Int × Int × Int)))
 else
 (Option.bind (i_within_m N e.2.2 0 999) fun (r3 : Bool) =>
 (bif (!r3) then
 (some ([] : List ((Int × Int × Int) × Int × Int × Int × Int × Int)))
 else
 (if fits (t9 + 1) then (go (list2, t7, t8, (t9 + 1), (mput (.int .i64) .bool b e.1 true))) else none)))))))))
 else
 (bif (decide ((24 : Int) < (list2.length : Int))) then
 (some ([] : List ((Int × Int × Int) × Int × Int × Int × Int × Int)))
 else
 (Option.bind (i_knots_m N N list2 0) fun (r4 : (List ((Int × Int × Int) × Int × Int × Int × Int × Int))) =>
 (some r4))))) N (list, list, (list.length : Int), 0, ([] : List (Int × Bool))))
def i_KnotsOf_M (N : Nat) : Model := ⟨i_KnotsOf_arg, i_KnotsOf_ret, fun a => i_KnotsOf_m N a⟩
set_option maxRecDepth 1000000 in
theorem i_KnotsOf_ok (N : Nat) : ModelOk Try.prog 36 (i_KnotsOf_M N) :=
  modelOk_of (E := mkEnv [(38, i_within_M N), (55, i_knots_M N N)] [] []) (mkEnv_ok (fnsOk_cons (i_within_ok N) (fnsOk_cons (i_knots_ok N N) fnsOk_nil)) _ _) Try.func36 (by kernel_rfl) rfl N i_KnotsOf_h (i_KnotsOf_M N) (by kernel_rfl) (by kernel_rfl) (fun a => by kernel_rfl)
/-! slices.Equal[[]loop.example/fossick/impl.Knot,loop.example/fossick/impl.Knot] -/
def k_slices_Equal_186_arg : Sh := ⟨[.pv (.sl (.pair (.pair (.int .i64) (.pair (.int .i64) (.int .i64))) (.pair (.int .i64) (.pair (.int .i64) (.pair (.int .i64) (.pair (.int .i64) (.int .i64))))))), .pv (.sl (.pair (.pair (.int .i64) (.pair (.int .i64) (.int .i64))) (.pair (.int .i64) (.pair (.int .i64) (.pair (.int .i64) (.pair (.int .i64) (.int .i64)))))))], []⟩
def k_slices_Equal_186_ret : Sh := ⟨[.pv .bool], []⟩
def k_slices_Equal_186_s1 : Sh := ⟨[.pv (.sl (.pair (.pair (.int .i64) (.pair (.int .i64) (.int .i64))) (.pair (.int .i64) (.pair (.int .i64) (.pair (.int .i64) (.pair (.int .i64) (.int .i64))))))), .pv (.sl (.pair (.pair (.int .i64) (.pair (.int .i64) (.int .i64))) (.pair (.int .i64) (.pair (.int .i64) (.pair (.int .i64) (.pair (.int .i64) (.int .i64))))))), .dead, .dead, .dead, .dead, .dead, .dead, .dead, .dead, .dead, .dead, .pv (.int .i64), .pv (.int .i64), .dead, .dead, .dead, .dead, .dead, .dead, .dead, .dead, .dead, .dead, .dead, .dead], []⟩
def k_slices_Equal_186_h : Hint := (.seq .no (.seq .no (.seq (.seq .no (.block (.loop k_slices_Equal_186_s1 .no))) .no)))
def k_slices_Equal_186_m (N : Nat) (s1 : List ((Int × Int × Int) × Int × Int × Int × Int × Int)) (s2 : List ((Int × Int × Int) × Int × Int × Int × Int × Int)) : Option (Bool) :=
 (bif (!decide ((s1.length : Int) = (s2.length : Int))) then
 (some false)
 else
 (iter (fun (go : ((List ((Int × Int × Int) × Int × Int × Int × Int × Int)) × (List ((Int × Int × Int) × Int × Int × Int × Int × Int)) × Int × Int) → Option Bool) (g : (List ((Int × Int × Int) × Int × Int × Int × Int × Int)) × (List ((Int × Int × Int) × Int × Int × Int × Int × Int)) × Int × Int) =>
 match g with
 | (s12, s22, t12, t13) =>
 (bif (decide (t13 < t12)) then
 (Option.bind (idx s12 t13) fun (e : (Int × Int × Int) × Int × Int × Int × Int × Int) =>
 (Option.bind (idx s22 t13) fun (e2 : (Int × Int × Int) × Int × Int × Int × Int × Int) =>
 (bif (!(((decide (e.1.1 = e2.1.1)) && ((decide (e.1.2.1 = e2.1.2.1)) && (decide (e.1.2.2 = e2.1.2.2)))) && ((decide (e.2.1 = e2.2.1)) && ((decide (e.2.2.1 = e2.2.2.1)) && ((decide (e.2.2.2.1 = e2.2.2.2.1)) && ((decide (e.2.2.2.2.1 = e2.2.2.2.2.1)) && (decide (e.2.2.2.2.2 = e2.2.2.2.2.2)))))))) then
 (some false)
 else
 (if fits (t13 + 1) then (go (s12, s22, t12, (t13 + 1))) else none))))
 else
 (some true))) N (s1, s2, (s1.length : Int), 0)))
def k_slices_Equal_186_M (N : Nat) : Model := ⟨k_slices_Equal_186_arg, k_slices_Equal_186_ret, fun a => k_slices_Equal_186_m N a.1 a.2⟩
set_option maxRecDepth 1000000 in
theorem k_slices_Equal_186_ok (N : Nat) : ModelOk Try.prog 35 (k_slices_Equal_186_M N) :=
  modelOk_of (E := mkEnv [] [] []) (mkEnv_ok fnsOk_nil _ _) Try.func35 (by kernel_rfl) rfl N k_slices_Equal_186_h (k_slices_Equal_186_M N) (by kernel_rfl) (by kernel_rfl) (fun a => by kernel_rfl)
/-! loop.example/fossick/impl.KnotsOk -/
def i_KnotsOk_arg : Sh := ⟨[.pv (.sl (.pair (.pair (.int .i64) (.pair (.int .i64) (.int .i64))) (.pair (.int .i64) (.pair (.int .i64) (.pair (.int .i64) (.pair (.int .i64) (.int .i64)))))))], []⟩
def i_KnotsOk_ret : Sh := ⟨[.pv .bool], []⟩
def i_KnotsOk_h : Hint := .no
def i_KnotsOk_m (N : Nat) (x : List ((Int × Int × Int) × Int × Int × Int × Int × Int)) : Option (Bool) :=
 (Option.bind (i_pointsIn_m N x) fun (r : (List (Int × Int × Int))) =>
 (Option.bind (i_KnotsOf_m N r) fun (r2 : (List ((Int × Int × Int) × Int × Int × Int × Int × Int))) =>
 (Option.bind (k_slices_Equal_186_m N r2 x) fun (r3 : Bool) =>
 (some r3))))
def i_KnotsOk_M (N : Nat) : Model := ⟨i_KnotsOk_arg, i_KnotsOk_ret, fun a => i_KnotsOk_m N a⟩
set_option maxRecDepth 1000000 in
theorem i_KnotsOk_ok (N : Nat) : ModelOk Try.prog 10 (i_KnotsOk_M N) :=
  modelOk_of (E := mkEnv [(37, i_pointsIn_M N), (36, i_KnotsOf_M N), (35, k_slices_Equal_186_M N)] [] []) (mkEnv_ok (fnsOk_cons (i_pointsIn_ok N) (fnsOk_cons (i_KnotsOf_ok N) (fnsOk_cons (k_slices_Equal_186_ok N) fnsOk_nil))) _ _) Try.func10 (by kernel_rfl) rfl N i_KnotsOk_h (i_KnotsOk_M N) (by kernel_rfl) (by kernel_rfl) (fun a => by kernel_rfl)
/-! loop.example/fossick/impl.BoxOk -/
def i_BoxOk_arg : Sh := ⟨[.agg [.pv (.int .i64), .pv (.int .i64), .pv (.int .i64), .pv (.int .i64)]], []⟩
def i_BoxOk_ret : Sh := ⟨[.pv .bool], []⟩
def i_BoxOk_h : Hint := .no
def i_BoxOk_m (N : Nat) (b : Int) (b2 : Int) (b3 : Int) (b4 : Int) : Option (Bool) :=
 (Option.bind (i_within_m N b 0 999) fun (r : Bool) =>
 (bif r then
 (Option.bind (i_within_m N b2 b 999) fun (r2 : Bool) =>
 (bif r2 then
 (Option.bind (i_within_m N b3 0 999) fun (r3 : Bool) =>
 (bif r3 then
 (Option.bind (i_within_m N b4 b3 999) fun (r4 : Bool) =>
 (some r4))
 else
 (some false)))
 else
 (some false)))
 else
 (some false)))
def i_BoxOk_M (N : Nat) : Model := ⟨i_BoxOk_arg, i_BoxOk_ret, fun a => i_BoxOk_m N a.1 a.2.1 a.2.2.1 a.2.2.2⟩
set_option maxRecDepth 1000000 in
theorem i_BoxOk_ok (N : Nat) : ModelOk Try.prog 12 (i_BoxOk_M N) :=
  modelOk_of (E := mkEnv [(38, i_within_M N)] [] []) (mkEnv_ok (fnsOk_cons (i_within_ok N) fnsOk_nil) _ _) Try.func12 (by kernel_rfl) rfl N i_BoxOk_h (i_BoxOk_M N) (by kernel_rfl) (by kernel_rfl) (fun a => by kernel_rfl)
/-! loop.example/fossick/impl.inBox -/
def i_inBox_arg : Sh := ⟨[.agg [.pv (.int .i64), .pv (.int .i64), .pv (.int .i64), .pv (.int .i64)], .agg [.pv (.int .i64), .pv (.int .i64), .pv (.int .i64)]], []⟩
def i_inBox_ret : Sh := ⟨[.pv .bool], []⟩
def i_inBox_h : Hint := .no
def i_inBox_m (N : Nat) (b : Int) (b2 : Int) (b3 : Int) (b4 : Int) (p : Int) (p2 : Int) (p3 : Int) : Option (Bool) :=
 (Option.bind (i_within_m N p2 b b2) fun (r : Bool) =>
 (bif r then
 (Option.bind (i_within_m N p3 b3 b4) fun (r2 : Bool) =>
 (some r2))
 else
 (some false)))
def i_inBox_M (N : Nat) : Model := ⟨i_inBox_arg, i_inBox_ret, fun a => i_inBox_m N a.1 a.2.1 a.2.2.1 a.2.2.2.1 a.2.2.2.2.1 a.2.2.2.2.2.1 a.2.2.2.2.2.2⟩
set_option maxRecDepth 1000000 in
theorem i_inBox_ok (N : Nat) : ModelOk Try.prog 47 (i_inBox_M N) :=
  modelOk_of (E := mkEnv [(38, i_within_M N)] [] []) (mkEnv_ok (fnsOk_cons (i_within_ok N) fnsOk_nil) _ _) Try.func47 (by kernel_rfl) rfl N i_inBox_h (i_inBox_M N) (by kernel_rfl) (by kernel_rfl) (fun a => by kernel_rfl)
/-! loop.example/fossick/impl.find -/
end Go.Proofs.Ytlhkdngkjodgiaa
