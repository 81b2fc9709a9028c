import Derived.Test.YtokkfonfajgomaaDoorKTab
set_option linter.unusedVariables false
set_option linter.unusedSimpArgs false
namespace Go.Proofs.YtokkfonfajgomaaDoor
open Go.RowKit
def l_szQuery_arg : Sh := ⟨[.agg [.pv (.int .i64), .pv .str, .pv (.sl .str), .pv (.int .i64), .pv (.int .i64), .pv (.sl .q)], .pv (.int .i64)], []⟩
def l_szQuery_ret : Sh := ⟨[.pv (.int .i64)], []⟩
def l_szStringS_arg : Sh := ⟨[.pv (.sl .str), .pv (.int .i64)], []⟩
def l_szStringS_ret : Sh := ⟨[.pv (.int .i64)], []⟩
def l_szStringS_s1 : Sh := ⟨[.pv (.sl .str), .pv (.int .i64), .dead, .dead, .dead, .pv (.int .i64), .dead, .dead, .dead, .dead, .dead, .dead, .dead, .dead, .dead, .dead, .dead, .dead, .dead, .dead, .dead, .dead, .dead, .dead, .dead, .dead, .dead, .dead], []⟩
def l_szStringS_h : Hint := (.seq .no (.seq .no (.seq .no (.seq (.seq .no (.block (.loop l_szStringS_s1 .no))) .no))))
def l_szStringS_m (N : Nat) (a : List (List UInt8)) (left : Int) : Option (Int) :=
 (if fits (left - (a.length : Int)) then (bif (decide ((left - (a.length : Int)) < 0)) then
 (some (-1))
 else
 (iter (fun (go : ((List (List UInt8)) × Int × Int) → Option Int) (g : (List (List UInt8)) × Int × Int) =>
 match g with
 | (a2, left2, i) =>
 (bif (decide (i < (a2.length : Int))) then
 (Option.bind (idx a2 i) fun (e : List UInt8) =>
 (if fits (left2 - (e.length : Int)) then (bif (decide ((left2 - (e.length : Int)) < 0)) then
 (some (-1))
 else
 (if fits (i + 1) then (go (a2, (left2 - (e.length : Int)), (i + 1))) else none)) else none))
 else
 (some left2))) N (a, (left - (a.length : Int)), 0))) else none)
def l_szStringS_M (N : Nat) : Model := ⟨l_szStringS_arg, l_szStringS_ret, fun a => l_szStringS_m N a.1 a.2⟩
set_option maxRecDepth 1000000 in
theorem l_szStringS_ok (N : Nat) : ModelOk Tryd.prog 23 (l_szStringS_M N) :=
  modelOk_of (E := mkEnv [] [] []) (mkEnv_ok fnsOk_nil _ _) Tryd.func23 (by kernel_rfl) rfl N l_szStringS_h (l_szStringS_M N) (by kernel_rfl) (by kernel_rfl) (fun a => by kernel_rfl)
def l_szQueryS_arg : Sh := ⟨[.pv (.sl .q), .pv (.int .i64)], []⟩
def l_szQueryS_ret : Sh := ⟨[.pv (.int .i64)], []⟩
def l_szQueryS_s1 : Sh := ⟨[.pv (.sl .q), .pv (.int .i64), .dead, .dead, .dead, .pv (.int .i64), .dead, .dead, .dead, .dead, .dead, .dead, .dead, .dead, .dead, .dead, .dead, .dead, .dead, .dead, .dead, .dead, .dead, .dead, .dead, .dead, .dead], []⟩
def l_szQueryS_h : Hint := (.seq .no (.seq .no (.seq .no (.seq (.seq .no (.block (.loop l_szQueryS_s1 .no))) .no))))
def l_szQueryS_m (N : Nat) (F : (Int × (List UInt8) × (List (List UInt8)) × Int × Int × (List DQ) × Int) → Option Int) (a : List DQ) (left : Int) : Option (Int) :=
 (if fits (left - (a.length : Int)) then (bif (decide ((left - (a.length : Int)) < 0)) then
 (some (-1))
 else
 (iter (fun (go : ((List DQ) × Int × Int) → Option Int) (g : (List DQ) × Int × Int) =>
 match g with
 | (a2, left2, i) =>
 (bif (decide (i < (a2.length : Int))) then
 (Option.bind (idx a2 i) fun (e : DQ) =>
 (Option.bind (F (e.kind, e.field, e.words, e.lo, e.hi, e.kids, left2)) fun (r : Int) =>
 (bif (decide (r < 0)) then
 (some (-1))
 else
 (if fits (i + 1) then (go (a2, r, (i + 1))) else none))))
 else
 (some left2))) N (a, (left - (a.length : Int)), 0))) else none)
def l_szQueryS_M (N : Nat) (F : (Int × (List UInt8) × (List (List UInt8)) × Int × Int × (List DQ) × Int) → Option Int) : Model := ⟨l_szQueryS_arg, l_szQueryS_ret, fun a => l_szQueryS_m N F a.1 a.2⟩
set_option maxRecDepth 1000000 in
theorem l_szQueryS_ok (N : Nat) (F : (Int × (List UInt8) × (List (List UInt8)) × Int × Int × (List DQ) × Int) → Option Int) (hF : ModelOk Tryd.prog 15 ⟨l_szQuery_arg, l_szQuery_ret, F⟩) : ModelOk Tryd.prog 24 (l_szQueryS_M N F) :=
  modelOk_of (E := mkEnv [(15, ⟨l_szQuery_arg, l_szQuery_ret, F⟩)] [] []) (mkEnv_ok (fnsOk_cons hF fnsOk_nil) _ _) Tryd.func24 (by kernel_rfl) rfl N l_szQueryS_h (l_szQueryS_M N F) (by kernel_rfl) (by kernel_rfl) (fun a => by kernel_rfl)
def l_szQuery_h : Hint := .no
def l_szQuery_m (N : Nat) : (D : Nat) → Int → (List UInt8) → (List (List UInt8)) → Int → Int → (List DQ) → Int → Option (Int)
 | 0, _, _, _, _, _, _, _ => none
 | D + 1, a, a2, a3, a4, a5, a6, left =>
 (if fits (left - (a2.length : Int)) then (bif (decide ((left - (a2.length : Int)) < 0)) then
 (some (-1))
 else
 (Option.bind (l_szStringS_m N a3 (left - (a2.length : Int))) fun (r : Int) =>
 (bif (decide (r < 0)) then
 (some (-1))
 else
 (Option.bind (l_szQueryS_m N (fun a => l_szQuery_m N D a.1 a.2.1 a.2.2.1 a.2.2.2.1 a.2.2.2.2.1 a.2.2.2.2.2.1 a.2.2.2.2.2.2) a6 r) fun (r2 : Int) =>
 (bif (decide (r2 < 0)) then
 (some (-1))
 else
 (some r2)))))) else none)
def l_szQuery_M (N D : Nat) : Model := ⟨l_szQuery_arg, l_szQuery_ret, fun a => l_szQuery_m N D a.1 a.2.1 a.2.2.1 a.2.2.2.1 a.2.2.2.2.1 a.2.2.2.2.2.1 a.2.2.2.2.2.2⟩
set_option maxRecDepth 1000000 in
theorem l_szQuery_step (N D : Nat) (ih : ModelOk Tryd.prog 15 (l_szQuery_M N D)) : ModelOk Tryd.prog 15 (l_szQuery_M N (D + 1)) :=
  modelOk_of (E := mkEnv [(15, l_szQuery_M N D), (23, l_szStringS_M N), (24, l_szQueryS_M N (fun a => l_szQuery_m N D a.1 a.2.1 a.2.2.1 a.2.2.2.1 a.2.2.2.2.1 a.2.2.2.2.2.1 a.2.2.2.2.2.2))] [] []) (mkEnv_ok (fnsOk_cons ih (fnsOk_cons (l_szStringS_ok N) (fnsOk_cons (l_szQueryS_ok N _ ih) fnsOk_nil))) _ _) Tryd.func15 (by kernel_rfl) rfl N l_szQuery_h (l_szQuery_M N (D + 1)) (by kernel_rfl) (by kernel_rfl) (fun a => by kernel_rfl)
theorem l_szQuery_ok (N : Nat) : ∀ D, ModelOk Tryd.prog 15 (l_szQuery_M N D)
  | 0 => modelOk_none ⟨_, Tryd.func15, by decide, by kernel_rfl⟩ _ (fun a => rfl)
  | D + 1 => l_szQuery_step N D (l_szQuery_ok N D)
def l_szAlert_arg : Sh := ⟨[.agg [.pv .str, .pv (.int .i64), .pv .str, .pv (.sl .str), .pv (.int .i64), .pv (.int .i64), .pv (.sl .q)], .pv (.int .i64)], []⟩
def l_szAlert_ret : Sh := ⟨[.pv (.int .i64)], []⟩
def l_szAlert_h : Hint := .no
def l_szAlert_m (N : Nat) (a : List UInt8) (a2 : Int) (a3 : List UInt8) (a4 : List (List UInt8)) (a5 : Int) (a6 : Int) (a7 : List DQ) (left : Int) : Option (Int) :=
 (if fits (left - (a.length : Int)) then (bif (decide ((left - (a.length : Int)) < 0)) then
 (some (-1))
 else
 (Option.bind (l_szQuery_m N N a2 a3 a4 a5 a6 a7 (left - (a.length : Int))) fun (r : Int) =>
 (bif (decide (r < 0)) then
 (some (-1))
 else
 (some r)))) else none)
def l_szAlert_M (N : Nat) : Model := ⟨l_szAlert_arg, l_szAlert_ret, fun a => l_szAlert_m N a.1 a.2.1 a.2.2.1 a.2.2.2.1 a.2.2.2.2.1 a.2.2.2.2.2.1 a.2.2.2.2.2.2.1 a.2.2.2.2.2.2.2⟩
set_option maxRecDepth 1000000 in
theorem l_szAlert_ok (N : Nat) : ModelOk Tryd.prog 9 (l_szAlert_M N) :=
  modelOk_of (E := mkEnv [(15, l_szQuery_M N N)] [] []) (mkEnv_ok (fnsOk_cons (l_szQuery_ok N N) fnsOk_nil) _ _) Tryd.func9 (by kernel_rfl) rfl N l_szAlert_h (l_szAlert_M N) (by kernel_rfl) (by kernel_rfl) (fun a => by kernel_rfl)
def l_szAlertS_arg : Sh := ⟨[.pv (.sl (.pair .str .q)), .pv (.int .i64)], []⟩
def l_szAlertS_ret : Sh := ⟨[.pv (.int .i64)], []⟩
def l_szAlertS_s1 : Sh := ⟨[.pv (.sl (.pair .str .q)), .pv (.int .i64), .dead, .dead, .dead, .pv (.int .i64), .dead, .dead, .dead, .dead, .dead, .dead, .dead, .dead, .dead, .dead, .dead, .dead, .dead, .dead, .dead, .dead, .dead, .dead, .dead, .dead, .dead], []⟩
def l_szAlertS_h : Hint := (.seq .no (.seq .no (.seq .no (.seq (.seq .no (.block (.loop l_szAlertS_s1 .no))) .no))))
def l_szAlertS_m (N : Nat) (a : List ((List UInt8) × DQ)) (left : Int) : Option (Int) :=
 (if fits (left - (a.length : Int)) then (bif (decide ((left - (a.length : Int)) < 0)) then
 (some (-1))
 else
 (iter (fun (go : ((List ((List UInt8) × DQ)) × Int × Int) → Option Int) (g : (List ((List UInt8) × DQ)) × Int × Int) =>
 match g with
 | (a2, left2, i) =>
 (bif (decide (i < (a2.length : Int))) then
 (Option.bind (idx a2 i) fun (e : (List UInt8) × DQ) =>
 (Option.bind (l_szAlert_m N e.1 e.2.kind e.2.field e.2.words e.2.lo e.2.hi e.2.kids left2) fun (r : Int) =>
 (bif (decide (r < 0)) then
 (some (-1))
 else
 (if fits (i + 1) then (go (a2, r, (i + 1))) else none))))
 else
 (some left2))) N (a, (left - (a.length : Int)), 0))) else none)
def l_szAlertS_M (N : Nat) : Model := ⟨l_szAlertS_arg, l_szAlertS_ret, fun a => l_szAlertS_m N a.1 a.2⟩
set_option maxRecDepth 1000000 in
theorem l_szAlertS_ok (N : Nat) : ModelOk Tryd.prog 4 (l_szAlertS_M N) :=
  modelOk_of (E := mkEnv [(9, l_szAlert_M N)] [] []) (mkEnv_ok (fnsOk_cons (l_szAlert_ok N) fnsOk_nil) _ _) Tryd.func4 (by kernel_rfl) rfl N l_szAlertS_h (l_szAlertS_M N) (by kernel_rfl) (by kernel_rfl) (fun a => by kernel_rfl)
def l_toQuery_arg : Sh := ⟨[.agg [.pv (.int .i64), .pv .str, .pv (.sl .str), .pv (.int .i64), .pv (.int .i64), .pv (.sl .q)]], []⟩
def l_toQuery_ret : Sh := ⟨[.agg [.pv (.int .i64), .pv .str, .own 1 .str 9 true, .pv (.int .i64), .pv (.int .i64), .own 2 .q 38 true]], []⟩
def l_toStringS_arg : Sh := ⟨[.pv (.sl .str)], []⟩
def l_toStringS_ret : Sh := ⟨[.own 1 .str 9 true], []⟩
def l_toStringS_s1 : Sh := ⟨[.pv (.sl .str), .dead, .dead, .mtk 600003 .str 9 true, .pv (.int .i64), .dead, .dead, .dead, .dead, .dead, .dead, .dead, .dead, .dead, .dead, .dead, .dead, .dead, .dead, .dead, .dead, .dead], []⟩
def l_toStringS_h : Hint := (.seq .no (.seq .no (.seq (.seq .no (.block (.loop l_toStringS_s1 .no))) .no)))
def l_toStringS_m (N : Nat) (a : List (List UInt8)) : Option ((List (List UInt8))) :=
 (if (a.length : Int) = (a.length : Int) ∧ 0 ≤ (a.length : Int) ∧ (a.length : Int) * 16 ≤ 140737488355328 ∧ (a.length : Int) ≤ 140737488355328 then
 (iter (fun (go : ((List (List UInt8)) × (List (List UInt8)) × Int) → Option ((List (List UInt8)))) (g : (List (List UInt8)) × (List (List UInt8)) × Int) =>
 match g with
 | (a2, out, i) =>
 (bif (decide (i < (a2.length : Int))) then
 (Option.bind (idx a2 i) fun (e : List UInt8) =>
 (if 0 ≤ i ∧ i < (out.length : Int) then
 (Option.bind (out[i.toNat]?) fun (e2 : List UInt8) =>
 (if fits (i + 1) then (go (a2, (out.set i.toNat e), (i + 1))) else none))
 else none))
 else
 (some out))) N (a, (List.replicate (a.length : Int).toNat ([] : List UInt8)), 0))
 else none)
def l_toStringS_M (N : Nat) : Model := ⟨l_toStringS_arg, l_toStringS_ret, fun a => l_toStringS_m N a⟩
set_option maxRecDepth 1000000 in
theorem l_toStringS_ok (N : Nat) : ModelOk Tryd.prog 28 (l_toStringS_M N) :=
  modelOk_of (E := mkEnv [] [7] []) (mkEnv_ok fnsOk_nil _ _) Tryd.func28 (by kernel_rfl) rfl N l_toStringS_h (l_toStringS_M N) (by kernel_rfl) (by kernel_rfl) (fun a => by kernel_rfl)
def l_toQueryS_arg : Sh := ⟨[.pv (.sl .q)], []⟩
def l_toQueryS_ret : Sh := ⟨[.own 1 .q 38 true], []⟩
def l_toQueryS_s1 : Sh := ⟨[.pv (.sl .q), .dead, .dead, .tre 600003 .q 38, .pv (.int .i64), .dead, .dead, .dead, .dead, .dead, .dead, .dead, .dead, .dead, .dead, .dead, .dead, .dead, .dead, .dead, .dead, .dead, .dead], []⟩
def l_toQueryS_h : Hint := (.seq .no (.seq .no (.seq (.seq .no (.block (.loop l_toQueryS_s1 .no))) .no)))
def l_toQueryS_m (N : Nat) (F : (Int × (List UInt8) × (List (List UInt8)) × Int × Int × (List DQ)) → Option (Int × (List UInt8) × (List (List UInt8)) × Int × Int × (List DQ))) (a : List DQ) : Option ((List DQ)) :=
 (if (a.length : Int) = (a.length : Int) ∧ 0 ≤ (a.length : Int) ∧ (a.length : Int) * 88 ≤ 140737488355328 ∧ (a.length : Int) ≤ 140737488355328 then
 (iter (fun (go : ((List DQ) × (List DQ) × Int) → Option ((List DQ))) (g : (List DQ) × (List DQ) × Int) =>
 match g with
 | (a2, out, i) =>
 (bif (decide (i < (a2.length : Int))) then
 (Option.bind (idx a2 i) fun (e : DQ) =>
 (Option.bind (F (e.kind, e.field, e.words, e.lo, e.hi, e.kids)) fun (r : Int × (List UInt8) × (List (List UInt8)) × Int × Int × (List DQ)) =>
 (if 0 ≤ i ∧ i < (out.length : Int) then
 (Option.bind (out[i.toNat]?) fun (e2 : DQ) =>
 (if fits (i + 1) then (go (a2, (out.set i.toNat (DQ.mk r.1 r.2.1 r.2.2.1 r.2.2.2.1 r.2.2.2.2.1 r.2.2.2.2.2)), (i + 1))) else none))
 else none)))
 else
 (some out))) N (a, (List.replicate (a.length : Int).toNat (DQ.mk 0 ([] : List UInt8) ([] : List (List UInt8)) 0 0 ([] : List DQ))), 0))
 else none)
def l_toQueryS_M (N : Nat) (F : (Int × (List UInt8) × (List (List UInt8)) × Int × Int × (List DQ)) → Option (Int × (List UInt8) × (List (List UInt8)) × Int × Int × (List DQ))) : Model := ⟨l_toQueryS_arg, l_toQueryS_ret, fun a => l_toQueryS_m N F a⟩
set_option maxRecDepth 1000000 in
theorem l_toQueryS_ok (N : Nat) (F : (Int × (List UInt8) × (List (List UInt8)) × Int × Int × (List DQ)) → Option (Int × (List UInt8) × (List (List UInt8)) × Int × Int × (List DQ))) (hF : ModelOk Tryd.prog 18 ⟨l_toQuery_arg, l_toQuery_ret, F⟩) : ModelOk Tryd.prog 29 (l_toQueryS_M N F) :=
  modelOk_of (E := mkEnv [(18, ⟨l_toQuery_arg, l_toQuery_ret, F⟩)] [7] [] [20]) (mkEnv_ok (fnsOk_cons hF fnsOk_nil) _ _ _) Tryd.func29 (by kernel_rfl) rfl N l_toQueryS_h (l_toQueryS_M N F) (by kernel_rfl) (by kernel_rfl) (fun a => by kernel_rfl)
def l_toQuery_h : Hint := .no
def l_toQuery_m (N : Nat) : (D : Nat) → Int → (List UInt8) → (List (List UInt8)) → Int → Int → (List DQ) → Option (Int × (List UInt8) × (List (List UInt8)) × Int × Int × (List DQ))
 | 0, _, _, _, _, _, _ => none
 | D + 1, a, a2, a3, a4, a5, a6 =>
 (Option.bind (l_toStringS_m N a3) fun (r : (List (List UInt8))) =>
 (Option.bind (l_toQueryS_m N (fun a => l_toQuery_m N D a.1 a.2.1 a.2.2.1 a.2.2.2.1 a.2.2.2.2.1 a.2.2.2.2.2) a6) fun (r2 : (List DQ)) =>
 (some (a, a2, r, a4, a5, r2))))
def l_toQuery_M (N D : Nat) : Model := ⟨l_toQuery_arg, l_toQuery_ret, fun a => l_toQuery_m N D a.1 a.2.1 a.2.2.1 a.2.2.2.1 a.2.2.2.2.1 a.2.2.2.2.2⟩
set_option maxRecDepth 1000000 in
theorem l_toQuery_step (N D : Nat) (ih : ModelOk Tryd.prog 18 (l_toQuery_M N D)) : ModelOk Tryd.prog 18 (l_toQuery_M N (D + 1)) :=
  modelOk_of (E := mkEnv [(18, l_toQuery_M N D), (28, l_toStringS_M N), (29, l_toQueryS_M N (fun a => l_toQuery_m N D a.1 a.2.1 a.2.2.1 a.2.2.2.1 a.2.2.2.2.1 a.2.2.2.2.2))] [] [] [12, 22]) (mkEnv_ok (fnsOk_cons ih (fnsOk_cons (l_toStringS_ok N) (fnsOk_cons (l_toQueryS_ok N _ ih) fnsOk_nil))) _ _ _) Tryd.func18 (by kernel_rfl) rfl N l_toQuery_h (l_toQuery_M N (D + 1)) (by kernel_rfl) (by kernel_rfl) (fun a => by kernel_rfl)
theorem l_toQuery_ok (N : Nat) : ∀ D, ModelOk Tryd.prog 18 (l_toQuery_M N D)
  | 0 => modelOk_none ⟨_, Tryd.func18, by decide, by kernel_rfl⟩ _ (fun a => rfl)
  | D + 1 => l_toQuery_step N D (l_toQuery_ok N D)
def l_toAlert_arg : Sh := ⟨[.agg [.pv .str, .pv (.int .i64), .pv .str, .pv (.sl .str), .pv (.int .i64), .pv (.int .i64), .pv (.sl .q)]], []⟩
def l_toAlert_ret : Sh := ⟨[.agg [.pv .str, .pv (.int .i64), .pv .str, .own 1 .str 9 true, .pv (.int .i64), .pv (.int .i64), .own 2 .q 38 true]], []⟩
def l_toAlert_h : Hint := .no
def l_toAlert_m (N : Nat) (a : List UInt8) (a2 : Int) (a3 : List UInt8) (a4 : List (List UInt8)) (a5 : Int) (a6 : Int) (a7 : List DQ) : Option ((List UInt8) × Int × (List UInt8) × (List (List UInt8)) × Int × Int × (List DQ)) :=
 (Option.bind (l_toQuery_m N N a2 a3 a4 a5 a6 a7) fun (r : Int × (List UInt8) × (List (List UInt8)) × Int × Int × (List DQ)) =>
 (some (a, r.1, r.2.1, r.2.2.1, r.2.2.2.1, r.2.2.2.2.1, r.2.2.2.2.2)))
def l_toAlert_M (N : Nat) : Model := ⟨l_toAlert_arg, l_toAlert_ret, fun a => l_toAlert_m N a.1 a.2.1 a.2.2.1 a.2.2.2.1 a.2.2.2.2.1 a.2.2.2.2.2.1 a.2.2.2.2.2.2⟩
set_option maxRecDepth 1000000 in
theorem l_toAlert_ok (N : Nat) : ModelOk Tryd.prog 11 (l_toAlert_M N) :=
  modelOk_of (E := mkEnv [(18, l_toQuery_M N N)] [] [] [9]) (mkEnv_ok (fnsOk_cons (l_toQuery_ok N N) fnsOk_nil) _ _ _) Tryd.func11 (by kernel_rfl) rfl N l_toAlert_h (l_toAlert_M N) (by kernel_rfl) (by kernel_rfl) (fun a => by kernel_rfl)
def l_toAlertS_arg : Sh := ⟨[.pv (.sl (.pair .str .q))], []⟩
def l_toAlertS_ret : Sh := ⟨[.own 1 (.pair .str .q) 40 true], []⟩
def l_toAlertS_s1 : Sh := ⟨[.pv (.sl (.pair .str .q)), .dead, .dead, .tre 600003 (.pair .str .q) 40, .pv (.int .i64), .dead, .dead, .dead, .dead, .dead, .dead, .dead, .dead, .dead, .dead, .dead, .dead, .dead, .dead, .dead, .dead, .dead, .dead], []⟩
def l_toAlertS_h : Hint := (.seq .no (.seq .no (.seq (.seq .no (.block (.loop l_toAlertS_s1 .no))) .no)))
def l_toAlertS_m (N : Nat) (a : List ((List UInt8) × DQ)) : Option ((List ((List UInt8) × DQ))) :=
 (if (a.length : Int) = (a.length : Int) ∧ 0 ≤ (a.length : Int) ∧ (a.length : Int) * 104 ≤ 140737488355328 ∧ (a.length : Int) ≤ 140737488355328 then
 (iter (fun (go : ((List ((List UInt8) × DQ)) × (List ((List UInt8) × DQ)) × Int) → Option ((List ((List UInt8) × DQ)))) (g : (List ((List UInt8) × DQ)) × (List ((List UInt8) × DQ)) × Int) =>
 match g with
 | (a2, out, i) =>
 (bif (decide (i < (a2.length : Int))) then
 (Option.bind (idx a2 i) fun (e : (List UInt8) × DQ) =>
 (Option.bind (l_toAlert_m N e.1 e.2.kind e.2.field e.2.words e.2.lo e.2.hi e.2.kids) fun (r : (List UInt8) × Int × (List UInt8) × (List (List UInt8)) × Int × Int × (List DQ)) =>
 (if 0 ≤ i ∧ i < (out.length : Int) then
 (Option.bind (out[i.toNat]?) fun (e2 : (List UInt8) × DQ) =>
 (if fits (i + 1) then (go (a2, (out.set i.toNat (r.1, (DQ.mk r.2.1 r.2.2.1 r.2.2.2.1 r.2.2.2.2.1 r.2.2.2.2.2.1 r.2.2.2.2.2.2))), (i + 1))) else none))
 else none)))
 else
 (some out))) N (a, (List.replicate (a.length : Int).toNat (([] : List UInt8), (DQ.mk 0 ([] : List UInt8) ([] : List (List UInt8)) 0 0 ([] : List DQ)))), 0))
 else none)
def l_toAlertS_M (N : Nat) : Model := ⟨l_toAlertS_arg, l_toAlertS_ret, fun a => l_toAlertS_m N a⟩
set_option maxRecDepth 1000000 in
theorem l_toAlertS_ok (N : Nat) : ModelOk Tryd.prog 6 (l_toAlertS_M N) :=
  modelOk_of (E := mkEnv [(11, l_toAlert_M N)] [7] [] [20]) (mkEnv_ok (fnsOk_cons (l_toAlert_ok N) fnsOk_nil) _ _ _) Tryd.func6 (by kernel_rfl) rfl N l_toAlertS_h (l_toAlertS_M N) (by kernel_rfl) (by kernel_rfl) (fun a => by kernel_rfl)
def s_l1Fold_arg : Sh := ⟨[.pv (.int .u8)], []⟩
def s_l1Fold_ret : Sh := ⟨[.pv (.int .u8)], []⟩
def s_l1Fold_h : Hint := .no
def s_l1Fold_m (N : Nat) (b : Int) : Option (Int) :=
 (bif (decide ((65 : Int) ≤ b)) then
 (bif (decide (b ≤ 90)) then
 (some (IntKind.u8.wrap (b + 32)))
 else
 (bif (decide ((97 : Int) ≤ b)) then
 (bif (decide (b ≤ 122)) then
 (some b)
 else
 (bif (decide ((48 : Int) ≤ b)) then
 (bif (decide (b ≤ 57)) then
 (some b)
 else
 (some 0))
 else
 (some 0)))
 else
 (bif (decide ((48 : Int) ≤ b)) then
 (bif (decide (b ≤ 57)) then
 (some b)
 else
 (some 0))
 else
 (some 0))))
 else
 (bif (decide ((97 : Int) ≤ b)) then
 (bif (decide (b ≤ 122)) then
 (some b)
 else
 (bif (decide ((48 : Int) ≤ b)) then
 (bif (decide (b ≤ 57)) then
 (some b)
 else
 (some 0))
 else
 (some 0)))
 else
 (bif (decide ((48 : Int) ≤ b)) then
 (bif (decide (b ≤ 57)) then
 (some b)
 else
 (some 0))
 else
 (some 0))))
def s_l1Fold_M (N : Nat) : Model := ⟨s_l1Fold_arg, s_l1Fold_ret, fun a => s_l1Fold_m N a⟩
set_option maxRecDepth 1000000 in
theorem s_l1Fold_ok (N : Nat) : ModelOk Tryd.prog 25 (s_l1Fold_M N) :=
  modelOk_of (E := mkEnv [] [] []) (mkEnv_ok fnsOk_nil _ _) Tryd.func25 (by kernel_rfl) rfl N s_l1Fold_h (s_l1Fold_M N) (by kernel_rfl) (by kernel_rfl) (fun a => by kernel_rfl)
def s_l1In_arg : Sh := ⟨[.pv (.int .i64), .pv (.int .i64), .pv (.int .i64)], []⟩
def s_l1In_ret : Sh := ⟨[.pv .bool], []⟩
def s_l1In_h : Hint := .no
def s_l1In_m (N : Nat) (n : Int) (low : Int) (high : Int) : Option (Bool) :=
 (bif (decide (low ≤ n)) then
 (some (decide (n ≤ high)))
 else
 (some false))
def s_l1In_M (N : Nat) : Model := ⟨s_l1In_arg, s_l1In_ret, fun a => s_l1In_m N a.1 a.2.1 a.2.2⟩
set_option maxRecDepth 1000000 in
theorem s_l1In_ok (N : Nat) : ModelOk Tryd.prog 26 (s_l1In_M N) :=
  modelOk_of (E := mkEnv [] [] []) (mkEnv_ok fnsOk_nil _ _) Tryd.func26 (by kernel_rfl) rfl N s_l1In_h (s_l1In_M N) (by kernel_rfl) (by kernel_rfl) (fun a => by kernel_rfl)
def s_l1WordOk_arg : Sh := ⟨[.pv .str], []⟩
def s_l1WordOk_ret : Sh := ⟨[.pv .bool], []⟩
def s_l1WordOk_s1 : Sh := ⟨[.pv .str, .dead, .dead, .pv (.int .i64), .dead, .dead, .dead, .dead, .dead, .dead, .dead, .dead, .dead, .dead, .dead, .dead, .dead, .dead, .dead, .dead, .dead, .dead, .dead, .dead, .dead, .dead, .dead], []⟩
def s_l1WordOk_h : Hint := (.seq .no (.seq (.seq .no (.block (.loop s_l1WordOk_s1 .no))) .no))
def s_l1WordOk_m (N : Nat) (s : List UInt8) : Option (Bool) :=
 (iter (fun (go : ((List UInt8) × Int) → Option Bool) (g : (List UInt8) × Int) =>
 match g with
 | (s2, i) =>
 (bif (decide (i < (s2.length : Int))) then
 (Option.bind (idx s2 i) fun (c : UInt8) =>
 (Option.bind (s_l1Fold_m N (c.toNat : Int)) fun (r : Int) =>
 (Option.bind (idx s2 i) fun (c2 : UInt8) =>
 (bif (!decide (r = (c2.toNat : Int))) then
 (some false)
 else
 (Option.bind (idx s2 i) fun (c3 : UInt8) =>
 (bif (decide ((c3.toNat : Int) = 0)) then
 (some false)
 else
 (if fits (i + 1) then (go (s2, (i + 1))) else none)))))))
 else
 (Option.bind (s_l1In_m N (s2.length : Int) 1 12) fun (r2 : Bool) =>
 (some r2)))) N (s, 0))
def s_l1WordOk_M (N : Nat) : Model := ⟨s_l1WordOk_arg, s_l1WordOk_ret, fun a => s_l1WordOk_m N a⟩
set_option maxRecDepth 1000000 in
theorem s_l1WordOk_ok (N : Nat) : ModelOk Tryd.prog 16 (s_l1WordOk_M N) :=
  modelOk_of (E := mkEnv [(25, s_l1Fold_M N), (26, s_l1In_M N)] [] []) (mkEnv_ok (fnsOk_cons (s_l1Fold_ok N) (fnsOk_cons (s_l1In_ok N) fnsOk_nil)) _ _) Tryd.func16 (by kernel_rfl) rfl N s_l1WordOk_h (s_l1WordOk_M N) (by kernel_rfl) (by kernel_rfl) (fun a => by kernel_rfl)
def s_l11Bare_arg : Sh := ⟨[.agg [.pv (.int .i64), .pv .str, .pv (.sl .str), .pv (.int .i64), .pv (.int .i64), .pv (.sl .q)], .pv .bool, .pv .bool, .pv .bool, .pv .bool], []⟩
def s_l11Bare_ret : Sh := ⟨[.pv .bool], []⟩
def s_l11Bare_h : Hint := .no
def s_l11Bare_m (N : Nat) (q : Int) (q2 : List UInt8) (q3 : List (List UInt8)) (q4 : Int) (q5 : Int) (q6 : List DQ) (field : Bool) (words : Bool) (nums : Bool) (kids : Bool) : Option (Bool) :=
 (bif field then
 (bif words then
 (bif nums then
 (bif kids then
 (some true)
 else
 (some (decide ((q6.length : Int) = 0))))
 else
 (bif (decide (q4 = 0)) then
 (bif (decide (q5 = 0)) then
 (bif kids then
 (some true)
 else
 (some (decide ((q6.length : Int) = 0))))
 else
 (some false))
 else
 (some false)))
 else
 (bif (decide ((q3.length : Int) = 0)) then
 (bif nums then
 (bif kids then
 (some true)
 else
 (some (decide ((q6.length : Int) = 0))))
 else
 (bif (decide (q4 = 0)) then
 (bif (decide (q5 = 0)) then
 (bif kids then
 (some true)
 else
 (some (decide ((q6.length : Int) = 0))))
 else
 (some false))
 else
 (some false)))
 else
 (some false)))
 else
 (bif (decide (q2 = ([] : List UInt8))) then
 (bif words then
 (bif nums then
 (bif kids then
 (some true)
 else
 (some (decide ((q6.length : Int) = 0))))
 else
 (bif (decide (q4 = 0)) then
 (bif (decide (q5 = 0)) then
 (bif kids then
 (some true)
 else
 (some (decide ((q6.length : Int) = 0))))
 else
 (some false))
 else
 (some false)))
 else
 (bif (decide ((q3.length : Int) = 0)) then
 (bif nums then
 (bif kids then
 (some true)
 else
 (some (decide ((q6.length : Int) = 0))))
 else
 (bif (decide (q4 = 0)) then
 (bif (decide (q5 = 0)) then
 (bif kids then
 (some true)
 else
 (some (decide ((q6.length : Int) = 0))))
 else
 (some false))
 else
 (some false)))
 else
 (some false)))
 else
 (some false)))
def s_l11Bare_M (N : Nat) : Model := ⟨s_l11Bare_arg, s_l11Bare_ret, fun a => s_l11Bare_m N a.1 a.2.1 a.2.2.1 a.2.2.2.1 a.2.2.2.2.1 a.2.2.2.2.2.1 a.2.2.2.2.2.2.1 a.2.2.2.2.2.2.2.1 a.2.2.2.2.2.2.2.2.1 a.2.2.2.2.2.2.2.2.2⟩
set_option maxRecDepth 1000000 in
theorem s_l11Bare_ok (N : Nat) : ModelOk Tryd.prog 34 (s_l11Bare_M N) :=
  modelOk_of (E := mkEnv [] [] []) (mkEnv_ok fnsOk_nil _ _) Tryd.func34 (by kernel_rfl) rfl N s_l11Bare_h (s_l11Bare_M N) (by kernel_rfl) (by kernel_rfl) (fun a => by kernel_rfl)
def s_l11Words_arg : Sh := ⟨[.pv (.sl .str), .pv (.int .i64)], []⟩
def s_l11Words_ret : Sh := ⟨[.pv .bool], []⟩
def s_l11Words_s1 : Sh := ⟨[.pv (.sl .str), .pv (.int .i64), .dead, .dead, .dead, .pv (.int .i64), .dead, .dead, .dead, .dead, .dead, .dead, .dead, .dead, .dead, .dead, .dead, .dead, .dead, .dead, .dead, .dead], []⟩
def s_l11Words_h : Hint := (.seq .no (.seq (.seq .no (.block (.loop s_l11Words_s1 .no))) .no))
def s_l11Words_m (N : Nat) (list : List (List UInt8)) (most : Int) : Option (Bool) :=
 (iter (fun (go : ((List (List UInt8)) × Int × Int) → Option Bool) (g : (List (List UInt8)) × Int × Int) =>
 match g with
 | (list2, most2, i) =>
 (bif (decide (i < (list2.length : Int))) then
 (Option.bind (idx list2 i) fun (e : List UInt8) =>
 (Option.bind (s_l1WordOk_m N e) fun (r : Bool) =>
 (bif (!r) then
 (some false)
 else
 (if fits (i + 1) then (go (list2, most2, (i + 1))) else none))))
 else
 (Option.bind (s_l1In_m N (list2.length : Int) 1 most2) fun (r2 : Bool) =>
 (some r2)))) N (list, most, 0))
def s_l11Words_M (N : Nat) : Model := ⟨s_l11Words_arg, s_l11Words_ret, fun a => s_l11Words_m N a.1 a.2⟩
set_option maxRecDepth 1000000 in
theorem s_l11Words_ok (N : Nat) : ModelOk Tryd.prog 35 (s_l11Words_M N) :=
  modelOk_of (E := mkEnv [(16, s_l1WordOk_M N), (26, s_l1In_M N)] [] []) (mkEnv_ok (fnsOk_cons (s_l1WordOk_ok N) (fnsOk_cons (s_l1In_ok N) fnsOk_nil)) _ _) Tryd.func35 (by kernel_rfl) rfl N s_l11Words_h (s_l11Words_M N) (by kernel_rfl) (by kernel_rfl) (fun a => by kernel_rfl)
def s_l5GlobOk_arg : Sh := ⟨[.pv .str], []⟩
def s_l5GlobOk_ret : Sh := ⟨[.pv .bool], []⟩
def s_l5GlobOk_s1 : Sh := ⟨[.pv .str, .dead, .dead, .pv (.int .i64), .dead, .dead, .dead, .dead, .dead, .dead, .dead, .dead, .dead, .dead, .dead, .dead, .dead, .dead, .dead, .dead, .dead, .dead, .dead, .dead, .dead, .dead, .dead, .dead, .dead, .dead, .dead, .dead], []⟩
def s_l5GlobOk_h : Hint := (.seq .no (.seq (.seq .no (.block (.loop s_l5GlobOk_s1 .no))) .no))
def s_l5GlobOk_m (N : Nat) (p : List UInt8) : Option (Bool) :=
 (iter (fun (go : ((List UInt8) × Int) → Option Bool) (g : (List UInt8) × Int) =>
 match g with
 | (p2, i) =>
 (bif (decide (i < (p2.length : Int))) then
 (Option.bind (idx p2 i) fun (c : UInt8) =>
 (bif (!decide ((c.toNat : Int) = 42)) then
 (Option.bind (idx p2 i) fun (c2 : UInt8) =>
 (bif (!decide ((c2.toNat : Int) = 63)) then
 (if fits (i + 1) then (Option.bind (cut p2 i (i + 1)) fun (y : List UInt8) =>
 (Option.bind (s_l1WordOk_m N y) fun (r : Bool) =>
 (bif (!r) then
 (some false)
 else
 (if fits (i + 1) then (go (p2, (i + 1))) else none)))) else none)
 else
 (if fits (i + 1) then (go (p2, (i + 1))) else none)))
 else
 (if fits (i + 1) then (go (p2, (i + 1))) else none)))
 else
 (Option.bind (s_l1In_m N (p2.length : Int) 1 12) fun (r2 : Bool) =>
 (some r2)))) N (p, 0))
def s_l5GlobOk_M (N : Nat) : Model := ⟨s_l5GlobOk_arg, s_l5GlobOk_ret, fun a => s_l5GlobOk_m N a⟩
set_option maxRecDepth 1000000 in
theorem s_l5GlobOk_ok (N : Nat) : ModelOk Tryd.prog 36 (s_l5GlobOk_M N) :=
  modelOk_of (E := mkEnv [(16, s_l1WordOk_M N), (26, s_l1In_M N)] [] []) (mkEnv_ok (fnsOk_cons (s_l1WordOk_ok N) (fnsOk_cons (s_l1In_ok N) fnsOk_nil)) _ _) Tryd.func36 (by kernel_rfl) rfl N s_l5GlobOk_h (s_l5GlobOk_M N) (by kernel_rfl) (by kernel_rfl) (fun a => by kernel_rfl)
def s_l11One_arg : Sh := ⟨[.agg [.pv (.int .i64), .pv .str, .pv (.sl .str), .pv (.int .i64), .pv (.int .i64), .pv (.sl .q)]], []⟩
def s_l11One_ret : Sh := ⟨[.pv .bool], []⟩
def s_l11One_s1 : Sh := ⟨[.dead, .box 1 0, .dead, .pv (.int .i64), .dead, .dead, .dead, .dead, .pv (.int .i64), .dead, .dead, .dead, .dead, .dead, .dead, .dead, .dead, .dead, .dead, .dead, .dead, .dead, .dead, .dead, .dead, .dead, .dead, .dead, .dead, .dead, .dead, .dead, .dead, .dead, .dead, .dead, .dead, .dead, .dead, .dead, .dead, .dead, .dead, .dead, .dead, .dead, .dead, .dead, .dead, .dead, .dead, .dead, .dead, .dead, .dead, .dead, .dead, .dead, .dead, .dead, .dead, .dead, .dead, .dead, .dead, .dead, .dead, .dead, .dead, .dead, .dead, .dead, .dead, .dead, .dead, .dead, .dead, .dead, .dead, .dead, .dead, .dead, .dead, .dead, .dead, .dead, .dead, .dead, .dead, .dead, .dead, .dead, .dead, .dead, .dead, .dead, .dead, .dead, .dead, .dead, .dead, .dead, .dead, .dead, .dead, .dead, .dead, .dead, .dead, .dead, .dead, .dead, .dead, .dead, .dead, .dead, .dead, .dead, .dead, .dead, .dead, .dead, .dead, .dead, .dead, .dead, .dead, .dead, .dead, .dead, .dead, .dead, .pv .bool, .dead, .dead, .dead, .dead, .dead, .dead, .dead, .dead, .dead, .dead, .dead, .dead, .dead, .dead, .dead, .dead, .dead, .dead, .dead, .dead, .dead, .dead, .dead, .dead, .dead, .dead, .dead, .dead, .dead, .dead, .dead, .dead, .dead, .dead], [(1, false, [.pv (.int .i64), .pv .str, .pv (.sl .str), .pv (.int .i64), .pv (.int .i64), .pv (.sl .q)])]⟩
def s_l11One_h : Hint := (.seq .no (.seq .no (.seq (.seq .no (.block (.seq .no (.cond .no (.seq .no (.cond .no (.seq .no (.cond .no (.seq .no (.cond .no (.seq .no (.cond .no (.seq .no (.cond .no (.meet s_l11One_s1 .no .no))))))))))))))) .no)))
def s_l11One_m (N : Nat) (q : Int) (q2 : List UInt8) (q3 : List (List UInt8)) (q4 : Int) (q5 : Int) (q6 : List DQ) : Option (Bool) :=
 (bif (decide (q = 1)) then
 (Option.bind (s_l11Bare_m N q q2 q3 q4 q5 q6 false false false false) fun (r : Bool) =>
 (some r))
 else
 (bif (decide (q = 2)) then
 (Option.bind (s_l11Bare_m N q q2 q3 q4 q5 q6 true true false false) fun (r2 : Bool) =>
 (bif r2 then
 (Option.bind (s_l1WordOk_m N q2) fun (r3 : Bool) =>
 (bif r3 then
 (Option.bind (s_l11Words_m N q3 1) fun (r4 : Bool) =>
 (some r4))
 else
 (some false)))
 else
 (some false)))
 else
 (bif (decide (q = 3)) then
 (Option.bind (s_l11Bare_m N q q2 q3 q4 q5 q6 true true true false) fun (r5 : Bool) =>
 (bif r5 then
 (Option.bind (s_l1WordOk_m N q2) fun (r6 : Bool) =>
 (bif r6 then
 (Option.bind (s_l11Words_m N q3 4) fun (r7 : Bool) =>
 (bif r7 then
 (bif (decide ((1 : Int) < (q3.length : Int))) then
 (bif (decide (q5 = 0)) then
 (Option.bind (s_l1In_m N q4 0 5) fun (r8 : Bool) =>
 (some r8))
 else
 (some false))
 else
 (some false))
 else
 (some false)))
 else
 (some false)))
 else
 (some false)))
 else
 (bif (decide (q = 4)) then
 (Option.bind (s_l11Bare_m N q q2 q3 q4 q5 q6 true true true false) fun (r9 : Bool) =>
 (bif r9 then
 (Option.bind (s_l1WordOk_m N q2) fun (r10 : Bool) =>
 (bif r10 then
 (Option.bind (s_l11Words_m N q3 1) fun (r11 : Bool) =>
 (bif r11 then
 (bif (decide (q5 = 0)) then
 (Option.bind (s_l1In_m N q4 1 2) fun (r12 : Bool) =>
 (some r12))
 else
 (some false))
 else
 (some false)))
 else
 (some false)))
 else
 (some false)))
 else
 (bif (decide (q = 5)) then
 (Option.bind (s_l11Bare_m N q q2 q3 q4 q5 q6 true true false false) fun (r13 : Bool) =>
 (bif r13 then
 (Option.bind (s_l1WordOk_m N q2) fun (r14 : Bool) =>
 (bif r14 then
 (bif (decide ((q3.length : Int) = 1)) then
 (Option.bind (idx q3 0) fun (e : List UInt8) =>
 (Option.bind (s_l5GlobOk_m N e) fun (r15 : Bool) =>
 (bif r15 then
 (Option.bind (idx q3 0) fun (e2 : List UInt8) =>
 (Option.bind (s_l1WordOk_m N e2) fun (r16 : Bool) =>
 (some (!r16))))
 else
 (some false))))
 else
 (some false))
 else
 (some false)))
 else
 (some false)))
 else
 (bif (decide (q = 6)) then
 (Option.bind (s_l11Bare_m N q q2 q3 q4 q5 q6 true false true false) fun (r17 : Bool) =>
 (bif r17 then
 (Option.bind (s_l1WordOk_m N q2) fun (r18 : Bool) =>
 (bif r18 then
 (Option.bind (s_l1In_m N q4 0 999999999) fun (r19 : Bool) =>
 (bif r19 then
 (Option.bind (s_l1In_m N q5 q4 999999999) fun (r20 : Bool) =>
 (some r20))
 else
 (some false)))
 else
 (some false)))
 else
 (some false)))
 else
 (meet (fun (g : Int × Int × Bool × Int × (List UInt8) × (List (List UInt8)) × Int × Int × (List DQ)) =>
 match g with
 | (n, t8, t132, q7, q8, q9, q10, q11, q12) =>
 (bif t132 then
 (Option.bind (s_l11Bare_m N q7 q8 q9 q10 q11 q12 false false false true) fun (r21 : Bool) =>
 (bif r21 then
 (Option.bind (s_l1In_m N n 2 4) fun (r22 : Bool) =>
 (some r22))
 else
 (some false)))
 else
 (bif (decide (t8 = 9)) then
 (Option.bind (s_l11Bare_m N q7 q8 q9 q10 q11 q12 false false false true) fun (r23 : Bool) =>
 (bif r23 then
 (some (decide (n = 2)))
 else
 (some false)))
 else
 (bif (decide (t8 = 10)) then
 (Option.bind (s_l11Bare_m N q7 q8 q9 q10 q11 q12 false false true true) fun (r24 : Bool) =>
 (bif r24 then
 (bif (decide (n = 1)) then
 (bif (decide (q11 = 0)) then
 (Option.bind (s_l1In_m N q10 2 9) fun (r25 : Bool) =>
 (some r25))
 else
 (some false))
 else
 (some false))
 else
 (some false)))
 else
 (some false))))) fun (J : (Int × Int × Bool × Int × (List UInt8) × (List (List UInt8)) × Int × Int × (List DQ)) → Option Bool) =>
 (bif (decide (q = 7)) then
 (J ((q6.length : Int), q, true, q, q2, q3, q4, q5, q6))
 else
 (J ((q6.length : Int), q, (decide (q = 8)), q, q2, q3, q4, q5, q6))))))))))
def s_l11One_M (N : Nat) : Model := ⟨s_l11One_arg, s_l11One_ret, fun a => s_l11One_m N a.1 a.2.1 a.2.2.1 a.2.2.2.1 a.2.2.2.2.1 a.2.2.2.2.2⟩
set_option maxRecDepth 1000000 in
theorem s_l11One_ok (N : Nat) : ModelOk Tryd.prog 33 (s_l11One_M N) :=
  modelOk_of (E := mkEnv [(34, s_l11Bare_M N), (16, s_l1WordOk_M N), (35, s_l11Words_M N), (26, s_l1In_M N), (36, s_l5GlobOk_M N)] [] []) (mkEnv_ok (fnsOk_cons (s_l11Bare_ok N) (fnsOk_cons (s_l1WordOk_ok N) (fnsOk_cons (s_l11Words_ok N) (fnsOk_cons (s_l1In_ok N) (fnsOk_cons (s_l5GlobOk_ok N) fnsOk_nil))))) _ _) Tryd.func33 (by kernel_rfl) rfl N s_l11One_h (s_l11One_M N) (by kernel_rfl) (by kernel_rfl) (fun a => by kernel_rfl)
def s_l11Deep_arg : Sh := ⟨[.agg [.pv (.int .i64), .pv .str, .pv (.sl .str), .pv (.int .i64), .pv (.int .i64), .pv (.sl .q)], .pv (.int .i64)], []⟩
def s_l11Deep_ret : Sh := ⟨[.pv .bool], []⟩
def s_l11Deep_s1 : Sh := ⟨[.dead, .pv (.int .i64), .box 2 0, .dead, .dead, .pv (.int .i64), .dead, .dead, .dead, .dead, .dead, .dead, .dead, .dead, .dead, .dead, .dead, .dead, .dead, .dead, .dead, .dead, .dead, .dead, .dead, .dead, .dead, .dead, .dead], [(2, false, [.pv (.int .i64), .pv .str, .pv (.sl .str), .pv (.int .i64), .pv (.int .i64), .pv (.sl .q)])]⟩
def s_l11Deep_h : Hint := (.seq .no (.seq .no (.seq (.seq .no (.block (.loop s_l11Deep_s1 .no))) .no)))
def s_l11Deep_m (N : Nat) : (D : Nat) → Int → (List UInt8) → (List (List UInt8)) → Int → Int → (List DQ) → Int → Option (Bool)
 | 0, _, _, _, _, _, _, _ => none
 | D + 1, q, q2, q3, q4, q5, q6, deep =>
 (bif (decide (deep = 0)) then
 (some false)
 else
 (Option.bind (s_l11One_m N q q2 q3 q4 q5 q6) fun (r : Bool) =>
 (bif (!r) then
 (some false)
 else
 (iter (fun (go : (Int × Int × Int × (List UInt8) × (List (List UInt8)) × Int × Int × (List DQ)) → Option Bool) (g : Int × Int × Int × (List UInt8) × (List (List UInt8)) × Int × Int × (List DQ)) =>
 match g with
 | (deep2, i, q7, q8, q9, q10, q11, q12) =>
 (bif (decide (i < (q12.length : Int))) then
 (Option.bind (idx q12 i) fun (e : DQ) =>
 (if fits (deep2 - 1) then (Option.bind (s_l11Deep_m N D e.kind e.field e.words e.lo e.hi e.kids (deep2 - 1)) fun (r2 : Bool) =>
 (bif (!r2) then
 (some false)
 else
 (if fits (i + 1) then (go (deep2, (i + 1), q7, q8, q9, q10, q11, q12)) else none))) else none))
 else
 (some true))) N (deep, 0, q, q2, q3, q4, q5, q6)))))
def s_l11Deep_M (N D : Nat) : Model := ⟨s_l11Deep_arg, s_l11Deep_ret, fun a => s_l11Deep_m N D a.1 a.2.1 a.2.2.1 a.2.2.2.1 a.2.2.2.2.1 a.2.2.2.2.2.1 a.2.2.2.2.2.2⟩
set_option maxRecDepth 1000000 in
theorem s_l11Deep_step (N D : Nat) (ih : ModelOk Tryd.prog 27 (s_l11Deep_M N D)) : ModelOk Tryd.prog 27 (s_l11Deep_M N (D + 1)) :=
  modelOk_of (E := mkEnv [(27, s_l11Deep_M N D), (33, s_l11One_M N)] [] []) (mkEnv_ok (fnsOk_cons ih (fnsOk_cons (s_l11One_ok N) fnsOk_nil)) _ _) Tryd.func27 (by kernel_rfl) rfl N s_l11Deep_h (s_l11Deep_M N (D + 1)) (by kernel_rfl) (by kernel_rfl) (fun a => by kernel_rfl)
theorem s_l11Deep_ok (N : Nat) : ∀ D, ModelOk Tryd.prog 27 (s_l11Deep_M N D)
  | 0 => modelOk_none ⟨_, Tryd.func27, by decide, by kernel_rfl⟩ _ (fun a => rfl)
  | D + 1 => s_l11Deep_step N D (s_l11Deep_ok N D)
def s_l11Ok_arg : Sh := ⟨[.agg [.pv (.int .i64), .pv .str, .pv (.sl .str), .pv (.int .i64), .pv (.int .i64), .pv (.sl .q)]], []⟩
def s_l11Ok_ret : Sh := ⟨[.pv .bool], []⟩
def s_l11Ok_h : Hint := .no
def s_l11Ok_m (N : Nat) (q : Int) (q2 : List UInt8) (q3 : List (List UInt8)) (q4 : Int) (q5 : Int) (q6 : List DQ) : Option (Bool) :=
 (Option.bind (s_l11Deep_m N N q q2 q3 q4 q5 q6 4) fun (r : Bool) =>
 (some r))
def s_l11Ok_M (N : Nat) : Model := ⟨s_l11Ok_arg, s_l11Ok_ret, fun a => s_l11Ok_m N a.1 a.2.1 a.2.2.1 a.2.2.2.1 a.2.2.2.2.1 a.2.2.2.2.2⟩
set_option maxRecDepth 1000000 in
theorem s_l11Ok_ok (N : Nat) : ModelOk Tryd.prog 17 (s_l11Ok_M N) :=
  modelOk_of (E := mkEnv [(27, s_l11Deep_M N N)] [] []) (mkEnv_ok (fnsOk_cons (s_l11Deep_ok N N) fnsOk_nil) _ _) Tryd.func17 (by kernel_rfl) rfl N s_l11Ok_h (s_l11Ok_M N) (by kernel_rfl) (by kernel_rfl) (fun a => by kernel_rfl)
def s_l25Ok_arg : Sh := ⟨[.pv (.sl (.pair .str .q))], []⟩
def s_l25Ok_ret : Sh := ⟨[.pv .bool], []⟩
def s_l25Ok_s1 : Sh := ⟨[.pv (.sl (.pair .str .q)), .dead, .dead, .pv (.int .i64), .dead, .dead, .dead, .dead, .dead, .dead, .dead, .dead, .dead, .dead, .dead, .dead, .dead, .dead, .dead, .dead, .dead, .dead, .dead, .dead, .dead, .dead, .dead, .dead, .dead, .dead, .dead, .dead, .dead, .dead, .dead, .dead, .dead, .dead, .dead, .dead, .dead, .dead, .dead, .dead, .dead, .dead, .dead], []⟩
def s_l25Ok_h : Hint := (.seq .no (.seq (.seq .no (.block (.loop s_l25Ok_s1 .no))) .no))
def s_l25Ok_m (N : Nat) (list : List ((List UInt8) × DQ)) : Option (Bool) :=
 (iter (fun (go : ((List ((List UInt8) × DQ)) × Int) → Option Bool) (g : (List ((List UInt8) × DQ)) × Int) =>
 match g with
 | (list2, i) =>
 (bif (decide (i < (list2.length : Int))) then
 (Option.bind (idx list2 i) fun (e : (List UInt8) × DQ) =>
 (Option.bind (s_l1WordOk_m N e.1) fun (r : Bool) =>
 (bif (!r) then
 (some false)
 else
 (Option.bind (idx list2 i) fun (e2 : (List UInt8) × DQ) =>
 (Option.bind (s_l11Ok_m N e2.2.kind e2.2.field e2.2.words e2.2.lo e2.2.hi e2.2.kids) fun (r2 : Bool) =>
 (bif (!r2) then
 (some false)
 else
 (bif (decide ((0 : Int) < i)) then
 (Option.bind (idx list2 i) fun (e3 : (List UInt8) × DQ) =>
 (if fits (i - 1) then (Option.bind (idx list2 (i - 1)) fun (e4 : (List UInt8) × DQ) =>
 (bif (Op.bytesLess e3.1 e4.1 || decide (e3.1 = e4.1)) then
 (some false)
 else
 (if fits (i + 1) then (go (list2, (i + 1))) else none))) else none))
 else
 (if fits (i + 1) then (go (list2, (i + 1))) else none))))))))
 else
 (some (decide ((list2.length : Int) ≤ 6))))) N (list, 0))
def s_l25Ok_M (N : Nat) : Model := ⟨s_l25Ok_arg, s_l25Ok_ret, fun a => s_l25Ok_m N a⟩
set_option maxRecDepth 1000000 in
theorem s_l25Ok_ok (N : Nat) : ModelOk Tryd.prog 10 (s_l25Ok_M N) :=
  modelOk_of (E := mkEnv [(16, s_l1WordOk_M N), (17, s_l11Ok_M N)] [] []) (mkEnv_ok (fnsOk_cons (s_l1WordOk_ok N) (fnsOk_cons (s_l11Ok_ok N) fnsOk_nil)) _ _) Tryd.func10 (by kernel_rfl) rfl N s_l25Ok_h (s_l25Ok_M N) (by kernel_rfl) (by kernel_rfl) (fun a => by kernel_rfl)
def s_AlertsOk_arg : Sh := ⟨[.pv (.sl (.pair .str .q))], []⟩
def s_AlertsOk_ret : Sh := ⟨[.pv .bool], []⟩
def s_AlertsOk_h : Hint := .no
def s_AlertsOk_m (N : Nat) (list : List ((List UInt8) × DQ)) : Option (Bool) :=
 (Option.bind (s_l25Ok_m N list) fun (r : Bool) =>
 (some r))
def s_AlertsOk_M (N : Nat) : Model := ⟨s_AlertsOk_arg, s_AlertsOk_ret, fun a => s_AlertsOk_m N a⟩
set_option maxRecDepth 1000000 in
theorem s_AlertsOk_ok (N : Nat) : ModelOk Tryd.prog 5 (s_AlertsOk_M N) :=
  modelOk_of (E := mkEnv [(10, s_l25Ok_M N)] [] []) (mkEnv_ok (fnsOk_cons (s_l25Ok_ok N) fnsOk_nil) _ _) Tryd.func5 (by kernel_rfl) rfl N s_AlertsOk_h (s_AlertsOk_M N) (by kernel_rfl) (by kernel_rfl) (fun a => by kernel_rfl)
def i_wordByte_arg : Sh := ⟨[.pv (.int .u8)], []⟩
def i_wordByte_ret : Sh := ⟨[.pv .bool], []⟩
def i_wordByte_h : Hint := .no
def i_wordByte_m (N : Nat) (b : Int) : Option (Bool) :=
 (bif (decide ((97 : Int) ≤ b)) then
 (bif (decide (b ≤ 122)) then
 (some true)
 else
 (bif (decide ((48 : Int) ≤ b)) then
 (some (decide (b ≤ 57)))
 else
 (some false)))
 else
 (bif (decide ((48 : Int) ≤ b)) then
 (some (decide (b ≤ 57)))
 else
 (some false)))
def i_wordByte_M (N : Nat) : Model := ⟨i_wordByte_arg, i_wordByte_ret, fun a => i_wordByte_m N a⟩
set_option maxRecDepth 1000000 in
theorem i_wordByte_ok (N : Nat) : ModelOk Tryd.prog 19 (i_wordByte_M N) :=
  modelOk_of (E := mkEnv [] [] []) (mkEnv_ok fnsOk_nil _ _) Tryd.func19 (by kernel_rfl) rfl N i_wordByte_h (i_wordByte_M N) (by kernel_rfl) (by kernel_rfl) (fun a => by kernel_rfl)
def i_within_arg : Sh := ⟨[.pv (.int .i64), .pv (.int .i64), .pv (.int .i64)], []⟩
def i_within_ret : Sh := ⟨[.pv .bool], []⟩
def i_within_h : Hint := .no
def i_within_m (N : Nat) (n : Int) (low : Int) (high : Int) : Option (Bool) :=
 (bif (decide (low ≤ n)) then
 (some (decide (n ≤ high)))
 else
 (some false))
def i_within_M (N : Nat) : Model := ⟨i_within_arg, i_within_ret, fun a => i_within_m N a.1 a.2.1 a.2.2⟩
set_option maxRecDepth 1000000 in
theorem i_within_ok (N : Nat) : ModelOk Tryd.prog 20 (i_within_M N) :=
  modelOk_of (E := mkEnv [] [] []) (mkEnv_ok fnsOk_nil _ _) Tryd.func20 (by kernel_rfl) rfl N i_within_h (i_within_M N) (by kernel_rfl) (by kernel_rfl) (fun a => by kernel_rfl)
def i_WordOk_arg : Sh := ⟨[.pv .str], []⟩
def i_WordOk_ret : Sh := ⟨[.pv .bool], []⟩
def i_WordOk_s1 : Sh := ⟨[.pv .str, .dead, .dead, .dead, .dead, .pv (.int .i64), .pv (.int .i64), .dead, .dead, .dead, .dead, .dead, .dead, .dead, .dead, .dead, .dead, .dead], []⟩
def i_WordOk_h : Hint := (.seq .no (.seq (.seq .no (.block (.loop i_WordOk_s1 .no))) .no))
def i_WordOk_m (N : Nat) (s : List UInt8) : Option (Bool) :=
 (iter (fun (go : ((List UInt8) × Int × Int) → Option Bool) (g : (List UInt8) × Int × Int) =>
 match g with
 | (s2, t5, t6) =>
 (bif (decide (t6 < t5)) then
 (Option.bind (idx s2 t6) fun (c : UInt8) =>
 (Option.bind (i_wordByte_m N (c.toNat : Int)) fun (r : Bool) =>
 (bif (!r) then
 (some false)
 else
 (if fits (t6 + 1) then (go (s2, t5, (t6 + 1))) else none))))
 else
 (Option.bind (i_within_m N (s2.length : Int) 1 12) fun (r2 : Bool) =>
 (some r2)))) N (s, (s.length : Int), 0))
def i_WordOk_M (N : Nat) : Model := ⟨i_WordOk_arg, i_WordOk_ret, fun a => i_WordOk_m N a⟩
set_option maxRecDepth 1000000 in
theorem i_WordOk_ok (N : Nat) : ModelOk Tryd.prog 12 (i_WordOk_M N) :=
  modelOk_of (E := mkEnv [(19, i_wordByte_M N), (20, i_within_M N)] [] []) (mkEnv_ok (fnsOk_cons (i_wordByte_ok N) (fnsOk_cons (i_within_ok N) fnsOk_nil)) _ _) Tryd.func12 (by kernel_rfl) rfl N i_WordOk_h (i_WordOk_M N) (by kernel_rfl) (by kernel_rfl) (fun a => by kernel_rfl)
def i_GlobOk_arg : Sh := ⟨[.pv .str], []⟩
def i_GlobOk_ret : Sh := ⟨[.pv .bool], []⟩
def i_GlobOk_s1 : Sh := ⟨[.pv .str, .dead, .dead, .dead, .dead, .pv (.int .i64), .pv (.int .i64), .dead, .dead, .dead, .dead, .dead, .dead, .dead, .dead, .dead, .dead, .dead, .dead, .dead, .dead, .dead, .dead, .dead, .dead, .dead, .dead, .dead, .dead, .dead], []⟩
def i_GlobOk_h : Hint := (.seq .no (.seq (.seq .no (.block (.loop i_GlobOk_s1 .no))) .no))
def i_GlobOk_m (N : Nat) (p : List UInt8) : Option (Bool) :=
 (iter (fun (go : ((List UInt8) × Int × Int) → Option Bool) (g : (List UInt8) × Int × Int) =>
 match g with
 | (p2, t5, t6) =>
 (bif (decide (t6 < t5)) then
 (Option.bind (idx p2 t6) fun (c : UInt8) =>
 (Option.bind (i_wordByte_m N (c.toNat : Int)) fun (r : Bool) =>
 (bif (!r) then
 (Option.bind (idx p2 t6) fun (c2 : UInt8) =>
 (bif (!decide ((c2.toNat : Int) = 42)) then
 (Option.bind (idx p2 t6) fun (c3 : UInt8) =>
 (bif (!decide ((c3.toNat : Int) = 63)) then
 (some false)
 else
 (if fits (t6 + 1) then (go (p2, t5, (t6 + 1))) else none)))
 else
 (if fits (t6 + 1) then (go (p2, t5, (t6 + 1))) else none)))
 else
 (if fits (t6 + 1) then (go (p2, t5, (t6 + 1))) else none))))
 else
 (Option.bind (i_within_m N (p2.length : Int) 1 12) fun (r2 : Bool) =>
 (some r2)))) N (p, (p.length : Int), 0))
def i_GlobOk_M (N : Nat) : Model := ⟨i_GlobOk_arg, i_GlobOk_ret, fun a => i_GlobOk_m N a⟩
set_option maxRecDepth 1000000 in
theorem i_GlobOk_ok (N : Nat) : ModelOk Tryd.prog 30 (i_GlobOk_M N) :=
  modelOk_of (E := mkEnv [(19, i_wordByte_M N), (20, i_within_M N)] [] []) (mkEnv_ok (fnsOk_cons (i_wordByte_ok N) (fnsOk_cons (i_within_ok N) fnsOk_nil)) _ _) Tryd.func30 (by kernel_rfl) rfl N i_GlobOk_h (i_GlobOk_M N) (by kernel_rfl) (by kernel_rfl) (fun a => by kernel_rfl)
def i_nodeOk_arg : Sh := ⟨[.agg [.pv (.int .i64), .pv .str, .pv (.sl .str), .pv (.int .i64), .pv (.int .i64), .pv (.sl .q)], .pv (.int .i64)], []⟩
def i_nodeOk_ret : Sh := ⟨[.pv .bool], []⟩
def i_nodeOk_s1 : Sh := ⟨[.dead, .pv (.int .i64), .box 2 0, .dead, .dead, .dead, .dead, .dead, .dead, .dead, .dead, .dead, .dead, .dead, .dead, .dead, .dead, .dead, .dead, .dead, .dead, .dead, .dead, .dead, .dead, .dead, .dead, .dead, .dead, .dead, .dead, .dead, .dead, .dead, .dead, .dead, .dead, .dead, .dead, .dead, .dead, .dead, .dead, .dead, .dead, .dead, .dead, .dead, .dead, .dead, .dead, .dead, .dead, .dead, .dead, .dead, .dead, .dead, .dead, .dead, .dead, .dead, .dead, .dead, .dead, .dead, .dead, .dead, .dead, .dead, .dead, .dead, .dead, .dead, .dead, .dead, .dead, .dead, .dead, .dead, .dead, .dead, .dead, .dead, .dead, .dead, .dead, .dead, .dead, .dead, .dead, .dead, .dead, .pv (.sl .str), .pv (.int .i64), .pv (.int .i64), .dead, .dead, .dead, .dead, .dead, .dead, .dead, .dead, .dead, .dead, .dead, .dead, .dead, .dead, .dead, .dead, .dead, .dead, .dead, .dead, .dead, .dead, .dead, .dead, .dead, .dead, .dead, .dead, .dead, .dead, .dead, .dead, .dead, .dead, .dead, .dead, .dead, .dead, .dead], [(2, false, [.pv (.int .i64), .pv .str, .pv (.sl .str), .pv (.int .i64), .pv (.int .i64), .pv (.sl .q)])]⟩
def i_nodeOk_s2 : Sh := ⟨[.dead, .pv (.int .i64), .dead, .dead, .dead, .dead, .dead, .dead, .dead, .dead, .dead, .dead, .dead, .dead, .dead, .dead, .dead, .dead, .dead, .dead, .dead, .dead, .dead, .dead, .dead, .dead, .dead, .dead, .dead, .dead, .dead, .dead, .dead, .dead, .dead, .dead, .dead, .dead, .dead, .dead, .dead, .dead, .dead, .dead, .dead, .dead, .dead, .dead, .dead, .dead, .dead, .dead, .dead, .dead, .dead, .dead, .dead, .dead, .dead, .dead, .dead, .dead, .dead, .dead, .dead, .dead, .dead, .dead, .dead, .dead, .dead, .dead, .dead, .dead, .dead, .dead, .dead, .dead, .dead, .dead, .dead, .dead, .dead, .dead, .dead, .dead, .dead, .dead, .dead, .dead, .dead, .dead, .dead, .dead, .dead, .dead, .dead, .dead, .dead, .dead, .dead, .dead, .dead, .dead, .dead, .dead, .dead, .dead, .dead, .dead, .dead, .dead, .dead, .dead, .dead, .dead, .dead, .dead, .dead, .dead, .dead, .dead, .dead, .pv (.sl .q), .pv (.int .i64), .pv (.int .i64), .dead, .dead, .dead, .dead, .dead, .dead, .dead, .dead, .dead], []⟩
def i_nodeOk_s3 : Sh := ⟨[.dead, .pv (.int .i64), .box 2 0, .dead, .dead, .dead, .dead, .dead, .dead, .dead, .dead, .dead, .dead, .dead, .dead, .dead, .dead, .dead, .dead, .dead, .dead, .dead, .dead, .dead, .dead, .dead, .dead, .dead, .dead, .dead, .dead, .dead, .dead, .dead, .dead, .dead, .dead, .dead, .dead, .dead, .dead, .dead, .dead, .dead, .dead, .dead, .dead, .dead, .dead, .dead, .dead, .dead, .dead, .dead, .dead, .dead, .dead, .dead, .dead, .dead, .dead, .dead, .dead, .dead, .dead, .dead, .dead, .dead, .dead, .dead, .dead, .dead, .dead, .dead, .dead, .dead, .dead, .dead, .dead, .dead, .dead, .dead, .dead, .dead, .dead, .dead, .dead, .dead, .dead, .dead, .dead, .dead, .dead, .dead, .dead, .dead, .dead, .dead, .dead, .dead, .dead, .dead, .dead, .dead, .dead, .dead, .dead, .dead, .dead, .dead, .dead, .dead, .dead, .dead, .dead, .dead, .dead, .dead, .dead, .dead, .dead, .dead, .dead, .dead, .dead, .dead, .dead, .dead, .dead, .dead, .dead, .dead, .dead, .dead, .dead], [(2, false, [.pv (.int .i64), .pv .str, .pv (.sl .str), .pv (.int .i64), .pv (.int .i64), .pv (.sl .q)])]⟩
def i_nodeOk_s4 : Sh := ⟨[.dead, .pv (.int .i64), .box 2 0, .dead, .dead, .box 5 0, .dead, .dead, .dead, .dead, .dead, .dead, .dead, .dead, .dead, .dead, .dead, .dead, .dead, .dead, .dead, .dead, .dead, .dead, .dead, .dead, .dead, .dead, .dead, .dead, .dead, .dead, .dead, .dead, .dead, .dead, .dead, .dead, .dead, .dead, .dead, .dead, .dead, .dead, .dead, .dead, .dead, .dead, .dead, .dead, .dead, .dead, .dead, .dead, .dead, .dead, .dead, .dead, .dead, .dead, .dead, .dead, .dead, .dead, .dead, .dead, .dead, .dead, .dead, .dead, .dead, .dead, .dead, .dead, .dead, .dead, .dead, .dead, .dead, .dead, .dead, .dead, .dead, .dead, .dead, .dead, .dead, .dead, .dead, .dead, .dead, .dead, .dead, .dead, .dead, .dead, .dead, .dead, .dead, .dead, .dead, .dead, .dead, .dead, .dead, .dead, .dead, .dead, .dead, .dead, .dead, .dead, .dead, .dead, .dead, .dead, .dead, .dead, .dead, .dead, .dead, .dead, .dead, .dead, .dead, .dead, .dead, .dead, .dead, .dead, .dead, .dead, .dead, .dead, .dead], [(2, false, [.pv (.int .i64), .pv .str, .pv (.sl .str), .pv (.int .i64), .pv (.int .i64), .pv (.sl .q)]), (5, false, [.pv .bool, .pv (.int .i64), .pv (.int .i64), .pv (.int .i64), .pv (.int .i64), .pv .bool, .pv (.int .i64), .pv (.int .i64)])]⟩
def i_nodeOk_s5 : Sh := ⟨[.dead, .pv (.int .i64), .box 2 0, .dead, .dead, .box 5 0, .dead, .dead, .dead, .dead, .dead, .dead, .dead, .dead, .dead, .dead, .dead, .dead, .dead, .dead, .dead, .dead, .dead, .dead, .dead, .dead, .dead, .dead, .dead, .dead, .dead, .dead, .dead, .dead, .dead, .dead, .dead, .dead, .dead, .dead, .dead, .dead, .dead, .dead, .dead, .dead, .dead, .dead, .dead, .dead, .dead, .dead, .dead, .dead, .dead, .dead, .dead, .dead, .dead, .dead, .dead, .dead, .dead, .dead, .dead, .dead, .dead, .dead, .dead, .dead, .dead, .dead, .dead, .dead, .dead, .dead, .dead, .dead, .dead, .dead, .dead, .dead, .dead, .dead, .dead, .dead, .dead, .dead, .dead, .dead, .dead, .dead, .dead, .dead, .dead, .dead, .dead, .dead, .dead, .dead, .dead, .dead, .dead, .dead, .dead, .dead, .dead, .dead, .dead, .dead, .dead, .dead, .dead, .dead, .dead, .dead, .dead, .dead, .dead, .dead, .dead, .dead, .dead, .dead, .dead, .dead, .dead, .dead, .dead, .dead, .dead, .dead, .dead, .dead, .dead], [(2, false, [.pv (.int .i64), .pv .str, .pv (.sl .str), .pv (.int .i64), .pv (.int .i64), .pv (.sl .q)]), (5, false, [.pv .bool, .pv (.int .i64), .pv (.int .i64), .pv (.int .i64), .pv (.int .i64), .pv .bool, .pv (.int .i64), .pv (.int .i64)])]⟩
def i_nodeOk_h : Hint := (.seq .no (.seq .no (.meet i_nodeOk_s5 .no (.meet i_nodeOk_s4 .no (.meet i_nodeOk_s3 .no (.seq (.seq .no (.block (.loop i_nodeOk_s1 .no))) (.seq (.seq .no (.block (.loop i_nodeOk_s2 .no))) .no)))))))
def i_nodeOk_m (N : Nat) : (D : Nat) → Int → (List UInt8) → (List (List UInt8)) → Int → Int → (List DQ) → Int → Option (Bool)
 | 0, _, _, _, _, _, _, _ => none
 | D + 1, q, q2, q3, q4, q5, q6, deep =>
 (meet (fun (g : Int × Int × (List UInt8) × (List (List UInt8)) × Int × Int × (List DQ) × Bool × Int × Int × Int × Int × Bool × Int × Int) =>
 match g with
 | (deep2, q7, q8, q9, q10, q11, q12, x, x2, x3, x4, x5, x6, x7, x8) =>
 (meet (fun (g : Int × Int × (List UInt8) × (List (List UInt8)) × Int × Int × (List DQ) × Bool × Int × Int × Int × Int × Bool × Int × Int) =>
 match g with
 | (deep3, q13, q14, q15, q16, q17, q18, x9, x10, x11, x12, x13, x14, x15, x16) =>
 (meet (fun (g : Int × Int × (List UInt8) × (List (List UInt8)) × Int × Int × (List DQ)) =>
 match g with
 | (deep4, q19, q20, q21, q22, q23, q24) =>
 (iter (fun (go : (Int × (List (List UInt8)) × Int × Int × Int × (List UInt8) × (List (List UInt8)) × Int × Int × (List DQ)) → Option Bool) (g : Int × (List (List UInt8)) × Int × Int × Int × (List UInt8) × (List (List UInt8)) × Int × Int × (List DQ)) =>
 match g with
 | (deep5, t93, t94, t95, q25, q26, q27, q28, q29, q30) =>
 (bif (decide (t95 < t94)) then
 (Option.bind (idx t93 t95) fun (e : List UInt8) =>
 (bif (decide (q25 = 5)) then
 (Option.bind (i_GlobOk_m N e) fun (r6 : Bool) =>
 (bif (!r6) then
 (some false)
 else
 (Option.bind (i_WordOk_m N e) fun (r7 : Bool) =>
 (bif r7 then
 (some false)
 else
 (bif (!decide (q25 = 5)) then
 (Option.bind (i_WordOk_m N e) fun (r8 : Bool) =>
 (bif (!r8) then
 (some false)
 else
 (if fits (t95 + 1) then (go (deep5, t93, t94, (t95 + 1), q25, q26, q27, q28, q29, q30)) else none)))
 else
 (if fits (t95 + 1) then (go (deep5, t93, t94, (t95 + 1), q25, q26, q27, q28, q29, q30)) else none))))))
 else
 (bif (!decide (q25 = 5)) then
 (Option.bind (i_WordOk_m N e) fun (r9 : Bool) =>
 (bif (!r9) then
 (some false)
 else
 (if fits (t95 + 1) then (go (deep5, t93, t94, (t95 + 1), q25, q26, q27, q28, q29, q30)) else none)))
 else
 (if fits (t95 + 1) then (go (deep5, t93, t94, (t95 + 1), q25, q26, q27, q28, q29, q30)) else none))))
 else
 (iter (fun (go2 : (Int × (List DQ) × Int × Int) → Option Bool) (g : Int × (List DQ) × Int × Int) =>
 match g with
 | (deep6, t123, t124, t125) =>
 (bif (decide (t125 < t124)) then
 (Option.bind (idx t123 t125) fun (e2 : DQ) =>
 (if fits (deep6 - 1) then (Option.bind (i_nodeOk_m N D e2.kind e2.field e2.words e2.lo e2.hi e2.kids (deep6 - 1)) fun (r10 : Bool) =>
 (bif (!r10) then
 (some false)
 else
 (if fits (t125 + 1) then (go2 (deep6, t123, t124, (t125 + 1))) else none))) else none))
 else
 (some true))) N (deep5, q30, (q30.length : Int), 0)))) N (deep4, q21, (q21.length : Int), 0, q19, q20, q21, q22, q23, q24))) fun (J3 : (Int × Int × (List UInt8) × (List (List UInt8)) × Int × Int × (List DQ)) → Option Bool) =>
 (bif x14 then
 (Option.bind (i_within_m N q17 q16 999999999) fun (r5 : Bool) =>
 (bif (!r5) then
 (some false)
 else
 (bif (!x14) then
 (bif (!decide (q17 = 0)) then
 (some false)
 else
 (J3 (deep3, q13, q14, q15, q16, q17, q18)))
 else
 (J3 (deep3, q13, q14, q15, q16, q17, q18)))))
 else
 (bif (!x14) then
 (bif (!decide (q17 = 0)) then
 (some false)
 else
 (J3 (deep3, q13, q14, q15, q16, q17, q18)))
 else
 (J3 (deep3, q13, q14, q15, q16, q17, q18)))))) fun (J2 : (Int × Int × (List UInt8) × (List (List UInt8)) × Int × Int × (List DQ) × Bool × Int × Int × Int × Int × Bool × Int × Int) → Option Bool) =>
 (Option.bind (i_within_m N (q9.length : Int) x2 x3) fun (r2 : Bool) =>
 (bif (!r2) then
 (some false)
 else
 (Option.bind (i_within_m N (q12.length : Int) x7 x8) fun (r3 : Bool) =>
 (bif (!r3) then
 (some false)
 else
 (Option.bind (i_within_m N q10 x4 x5) fun (r4 : Bool) =>
 (bif (!r4) then
 (some false)
 else
 (J2 (deep2, q7, q8, q9, q10, q11, q12, x, x2, x3, x4, x5, x6, x7, x8)))))))))) fun (J : (Int × Int × (List UInt8) × (List (List UInt8)) × Int × Int × (List DQ) × Bool × Int × Int × Int × Int × Bool × Int × Int) → Option Bool) =>
 (bif (!((mget (.int .i64) (.pair .bool (.pair (.int .i64) (.pair (.int .i64) (.pair (.int .i64) (.pair (.int .i64) (.pair .bool (.pair (.int .i64) (.int .i64)))))))) gm_shapes q).isSome)) then
 (some false)
 else
 (bif (decide (deep < 1)) then
 (some false)
 else
 (bif (!((((mget (.int .i64) (.pair .bool (.pair (.int .i64) (.pair (.int .i64) (.pair (.int .i64) (.pair (.int .i64) (.pair .bool (.pair (.int .i64) (.int .i64)))))))) gm_shapes q).getD (false, (0, (0, (0, (0, (false, (0, 0)))))))).1) == (!decide (q2 = ([] : List UInt8))))) then
 (some false)
 else
 (bif ((mget (.int .i64) (.pair .bool (.pair (.int .i64) (.pair (.int .i64) (.pair (.int .i64) (.pair (.int .i64) (.pair .bool (.pair (.int .i64) (.int .i64)))))))) gm_shapes q).getD (false, (0, (0, (0, (0, (false, (0, 0)))))))).1 then
 (Option.bind (i_WordOk_m N q2) fun (r : Bool) =>
 (bif (!r) then
 (some false)
 else
 (J (deep, q, q2, q3, q4, q5, q6, ((mget (.int .i64) (.pair .bool (.pair (.int .i64) (.pair (.int .i64) (.pair (.int .i64) (.pair (.int .i64) (.pair .bool (.pair (.int .i64) (.int .i64)))))))) gm_shapes q).getD (false, (0, (0, (0, (0, (false, (0, 0)))))))).1, (((mget (.int .i64) (.pair .bool (.pair (.int .i64) (.pair (.int .i64) (.pair (.int .i64) (.pair (.int .i64) (.pair .bool (.pair (.int .i64) (.int .i64)))))))) gm_shapes q).getD (false, (0, (0, (0, (0, (false, (0, 0)))))))).2).1, ((((mget (.int .i64) (.pair .bool (.pair (.int .i64) (.pair (.int .i64) (.pair (.int .i64) (.pair (.int .i64) (.pair .bool (.pair (.int .i64) (.int .i64)))))))) gm_shapes q).getD (false, (0, (0, (0, (0, (false, (0, 0)))))))).2).2).1, (((((mget (.int .i64) (.pair .bool (.pair (.int .i64) (.pair (.int .i64) (.pair (.int .i64) (.pair (.int .i64) (.pair .bool (.pair (.int .i64) (.int .i64)))))))) gm_shapes q).getD (false, (0, (0, (0, (0, (false, (0, 0)))))))).2).2).2).1, ((((((mget (.int .i64) (.pair .bool (.pair (.int .i64) (.pair (.int .i64) (.pair (.int .i64) (.pair (.int .i64) (.pair .bool (.pair (.int .i64) (.int .i64)))))))) gm_shapes q).getD (false, (0, (0, (0, (0, (false, (0, 0)))))))).2).2).2).2).1, (((((((mget (.int .i64) (.pair .bool (.pair (.int .i64) (.pair (.int .i64) (.pair (.int .i64) (.pair (.int .i64) (.pair .bool (.pair (.int .i64) (.int .i64)))))))) gm_shapes q).getD (false, (0, (0, (0, (0, (false, (0, 0)))))))).2).2).2).2).2).1, ((((((((mget (.int .i64) (.pair .bool (.pair (.int .i64) (.pair (.int .i64) (.pair (.int .i64) (.pair (.int .i64) (.pair .bool (.pair (.int .i64) (.int .i64)))))))) gm_shapes q).getD (false, (0, (0, (0, (0, (false, (0, 0)))))))).2).2).2).2).2).2).1, ((((((((mget (.int .i64) (.pair .bool (.pair (.int .i64) (.pair (.int .i64) (.pair (.int .i64) (.pair (.int .i64) (.pair .bool (.pair (.int .i64) (.int .i64)))))))) gm_shapes q).getD (false, (0, (0, (0, (0, (false, (0, 0)))))))).2).2).2).2).2).2).2))))
 else
 (J (deep, q, q2, q3, q4, q5, q6, ((mget (.int .i64) (.pair .bool (.pair (.int .i64) (.pair (.int .i64) (.pair (.int .i64) (.pair (.int .i64) (.pair .bool (.pair (.int .i64) (.int .i64)))))))) gm_shapes q).getD (false, (0, (0, (0, (0, (false, (0, 0)))))))).1, (((mget (.int .i64) (.pair .bool (.pair (.int .i64) (.pair (.int .i64) (.pair (.int .i64) (.pair (.int .i64) (.pair .bool (.pair (.int .i64) (.int .i64)))))))) gm_shapes q).getD (false, (0, (0, (0, (0, (false, (0, 0)))))))).2).1, ((((mget (.int .i64) (.pair .bool (.pair (.int .i64) (.pair (.int .i64) (.pair (.int .i64) (.pair (.int .i64) (.pair .bool (.pair (.int .i64) (.int .i64)))))))) gm_shapes q).getD (false, (0, (0, (0, (0, (false, (0, 0)))))))).2).2).1, (((((mget (.int .i64) (.pair .bool (.pair (.int .i64) (.pair (.int .i64) (.pair (.int .i64) (.pair (.int .i64) (.pair .bool (.pair (.int .i64) (.int .i64)))))))) gm_shapes q).getD (false, (0, (0, (0, (0, (false, (0, 0)))))))).2).2).2).1, ((((((mget (.int .i64) (.pair .bool (.pair (.int .i64) (.pair (.int .i64) (.pair (.int .i64) (.pair (.int .i64) (.pair .bool (.pair (.int .i64) (.int .i64)))))))) gm_shapes q).getD (false, (0, (0, (0, (0, (false, (0, 0)))))))).2).2).2).2).1, (((((((mget (.int .i64) (.pair .bool (.pair (.int .i64) (.pair (.int .i64) (.pair (.int .i64) (.pair (.int .i64) (.pair .bool (.pair (.int .i64) (.int .i64)))))))) gm_shapes q).getD (false, (0, (0, (0, (0, (false, (0, 0)))))))).2).2).2).2).2).1, ((((((((mget (.int .i64) (.pair .bool (.pair (.int .i64) (.pair (.int .i64) (.pair (.int .i64) (.pair (.int .i64) (.pair .bool (.pair (.int .i64) (.int .i64)))))))) gm_shapes q).getD (false, (0, (0, (0, (0, (false, (0, 0)))))))).2).2).2).2).2).2).1, ((((((((mget (.int .i64) (.pair .bool (.pair (.int .i64) (.pair (.int .i64) (.pair (.int .i64) (.pair (.int .i64) (.pair .bool (.pair (.int .i64) (.int .i64)))))))) gm_shapes q).getD (false, (0, (0, (0, (0, (false, (0, 0)))))))).2).2).2).2).2).2).2)))))))
def i_nodeOk_M (N D : Nat) : Model := ⟨i_nodeOk_arg, i_nodeOk_ret, fun a => i_nodeOk_m N D a.1 a.2.1 a.2.2.1 a.2.2.2.1 a.2.2.2.2.1 a.2.2.2.2.2.1 a.2.2.2.2.2.2⟩
set_option maxRecDepth 1000000 in
theorem i_nodeOk_step (N D : Nat) (ih : ModelOk Tryd.prog 21 (i_nodeOk_M N D)) : ModelOk Tryd.prog 21 (i_nodeOk_M N (D + 1)) :=
  modelOk_of (E := mkEnv [(21, i_nodeOk_M N D), (12, i_WordOk_M N), (20, i_within_M N), (30, i_GlobOk_M N)] [] []) (mkEnv_ok (fnsOk_cons ih (fnsOk_cons (i_WordOk_ok N) (fnsOk_cons (i_within_ok N) (fnsOk_cons (i_GlobOk_ok N) fnsOk_nil)))) _ _) Tryd.func21 (by kernel_rfl) rfl N i_nodeOk_h (i_nodeOk_M N (D + 1)) (by kernel_rfl) (by kernel_rfl) (fun a => by kernel_rfl)
theorem i_nodeOk_ok (N : Nat) : ∀ D, ModelOk Tryd.prog 21 (i_nodeOk_M N D)
  | 0 => modelOk_none ⟨_, Tryd.func21, by decide, by kernel_rfl⟩ _ (fun a => rfl)
  | D + 1 => i_nodeOk_step N D (i_nodeOk_ok N D)
def i_QueryOk_arg : Sh := ⟨[.agg [.pv (.int .i64), .pv .str, .pv (.sl .str), .pv (.int .i64), .pv (.int .i64), .pv (.sl .q)]], []⟩
def i_QueryOk_ret : Sh := ⟨[.pv .bool], []⟩
def i_QueryOk_h : Hint := .no
def i_QueryOk_m (N : Nat) (q : Int) (q2 : List UInt8) (q3 : List (List UInt8)) (q4 : Int) (q5 : Int) (q6 : List DQ) : Option (Bool) :=
 (Option.bind (i_nodeOk_m N N q q2 q3 q4 q5 q6 4) fun (r : Bool) =>
 (some r))
def i_QueryOk_M (N : Nat) : Model := ⟨i_QueryOk_arg, i_QueryOk_ret, fun a => i_QueryOk_m N a.1 a.2.1 a.2.2.1 a.2.2.2.1 a.2.2.2.2.1 a.2.2.2.2.2⟩
set_option maxRecDepth 1000000 in
theorem i_QueryOk_ok (N : Nat) : ModelOk Tryd.prog 13 (i_QueryOk_M N) :=
  modelOk_of (E := mkEnv [(21, i_nodeOk_M N N)] [] []) (mkEnv_ok (fnsOk_cons (i_nodeOk_ok N N) fnsOk_nil) _ _) Tryd.func13 (by kernel_rfl) rfl N i_QueryOk_h (i_QueryOk_M N) (by kernel_rfl) (by kernel_rfl) (fun a => by kernel_rfl)
def i_AlertsOk_arg : Sh := ⟨[.pv (.sl (.pair .str .q))], []⟩
def i_AlertsOk_ret : Sh := ⟨[.pv .bool], []⟩
def i_AlertsOk_s1 : Sh := ⟨[.pv (.sl (.pair .str .q)), .dead, .dead, .dead, .dead, .pv (.sl (.pair .str .q)), .pv (.int .i64), .pv (.int .i64), .dead, .dead, .dead, .dead, .dead, .dead, .dead, .dead, .dead, .dead, .dead, .dead, .dead, .dead, .dead, .dead, .dead, .dead, .dead, .dead, .dead, .dead, .dead, .dead, .dead, .dead, .dead, .dead, .dead, .dead, .dead, .dead, .dead], []⟩
def i_AlertsOk_h : Hint := (.seq .no (.seq (.seq .no (.block (.loop i_AlertsOk_s1 .no))) .no))
def i_AlertsOk_m (N : Nat) (list : List ((List UInt8) × DQ)) : Option (Bool) :=
 (iter (fun (go : ((List ((List UInt8) × DQ)) × (List ((List UInt8) × DQ)) × Int × Int) → Option Bool) (g : (List ((List UInt8) × DQ)) × (List ((List UInt8) × DQ)) × Int × Int) =>
 match g with
 | (list2, t5, t6, t7) =>
 (bif (decide (t7 < t6)) then
 (Option.bind (idx t5 t7) fun (e : (List UInt8) × DQ) =>
 (Option.bind (i_WordOk_m N e.1) fun (r : Bool) =>
 (bif (!r) then
 (some false)
 else
 (Option.bind (i_QueryOk_m N e.2.kind e.2.field e.2.words e.2.lo e.2.hi e.2.kids) fun (r2 : Bool) =>
 (bif (!r2) then
 (some false)
 else
 (bif (decide ((0 : Int) < t7)) then
 (if fits (t7 - 1) then (Option.bind (idx list2 (t7 - 1)) fun (e2 : (List UInt8) × DQ) =>
 (bif (!Op.bytesLess e2.1 e.1) then
 (some false)
 else
 (if fits (t7 + 1) then (go (list2, t5, t6, (t7 + 1))) else none))) else none)
 else
 (if fits (t7 + 1) then (go (list2, t5, t6, (t7 + 1))) else none)))))))
 else
 (some (decide ((list2.length : Int) ≤ 6))))) N (list, list, (list.length : Int), 0))
def i_AlertsOk_M (N : Nat) : Model := ⟨i_AlertsOk_arg, i_AlertsOk_ret, fun a => i_AlertsOk_m N a⟩
set_option maxRecDepth 1000000 in
theorem i_AlertsOk_ok (N : Nat) : ModelOk Tryd.prog 7 (i_AlertsOk_M N) :=
  modelOk_of (E := mkEnv [(12, i_WordOk_M N), (13, i_QueryOk_M N)] [] []) (mkEnv_ok (fnsOk_cons (i_WordOk_ok N) (fnsOk_cons (i_QueryOk_ok N) fnsOk_nil)) _ _) Tryd.func7 (by kernel_rfl) rfl N i_AlertsOk_h (i_AlertsOk_M N) (by kernel_rfl) (by kernel_rfl) (fun a => by kernel_rfl)
def l_eqQuery_arg : Sh := ⟨[.agg [.pv (.int .i64), .pv .str, .pv (.sl .str), .pv (.int .i64), .pv (.int .i64), .pv (.sl .q)], .agg [.pv (.int .i64), .pv .str, .pv (.sl .str), .pv (.int .i64), .pv (.int .i64), .pv (.sl .q)]], []⟩
def l_eqQuery_ret : Sh := ⟨[.pv .bool], []⟩
def l_eqStringS_arg : Sh := ⟨[.pv (.sl .str), .pv (.sl .str)], []⟩
def l_eqStringS_ret : Sh := ⟨[.pv .bool], []⟩
def l_eqStringS_s1 : Sh := ⟨[.pv (.sl .str), .pv (.sl .str), .dead, .dead, .dead, .pv (.int .i64), .dead, .dead, .dead, .dead, .dead, .dead, .dead, .dead, .dead, .dead, .dead, .dead, .dead, .dead, .dead, .dead, .dead, .dead, .dead, .dead], []⟩
def l_eqStringS_h : Hint := (.seq .no (.seq .no (.seq (.seq .no (.block (.loop l_eqStringS_s1 .no))) .no)))
def l_eqStringS_m (N : Nat) (a : List (List UInt8)) (b : List (List UInt8)) : Option (Bool) :=
 (bif (!decide ((a.length : Int) = (b.length : Int))) then
 (some false)
 else
 (iter (fun (go : ((List (List UInt8)) × (List (List UInt8)) × Int) → Option Bool) (g : (List (List UInt8)) × (List (List UInt8)) × Int) =>
 match g with
 | (a2, b2, i) =>
 (bif (decide (i < (a2.length : Int))) then
 (Option.bind (idx a2 i) fun (e : List UInt8) =>
 (Option.bind (idx b2 i) fun (e2 : List UInt8) =>
 (bif (!decide (e = e2)) then
 (some false)
 else
 (if fits (i + 1) then (go (a2, b2, (i + 1))) else none))))
 else
 (some true))) N (a, b, 0)))
def l_eqStringS_M (N : Nat) : Model := ⟨l_eqStringS_arg, l_eqStringS_ret, fun a => l_eqStringS_m N a.1 a.2⟩
set_option maxRecDepth 1000000 in
theorem l_eqStringS_ok (N : Nat) : ModelOk Tryd.prog 31 (l_eqStringS_M N) :=
  modelOk_of (E := mkEnv [] [] []) (mkEnv_ok fnsOk_nil _ _) Tryd.func31 (by kernel_rfl) rfl N l_eqStringS_h (l_eqStringS_M N) (by kernel_rfl) (by kernel_rfl) (fun a => by kernel_rfl)
def l_eqQueryS_arg : Sh := ⟨[.pv (.sl .q), .pv (.sl .q)], []⟩
def l_eqQueryS_ret : Sh := ⟨[.pv .bool], []⟩
def l_eqQueryS_s1 : Sh := ⟨[.pv (.sl .q), .pv (.sl .q), .dead, .dead, .dead, .pv (.int .i64), .dead, .dead, .dead, .dead, .dead, .dead, .dead, .dead, .dead, .dead, .dead, .dead, .dead, .dead, .dead, .dead, .dead, .dead, .dead, .dead, .dead], []⟩
def l_eqQueryS_h : Hint := (.seq .no (.seq .no (.seq (.seq .no (.block (.loop l_eqQueryS_s1 .no))) .no)))
def l_eqQueryS_m (N : Nat) (F : (Int × (List UInt8) × (List (List UInt8)) × Int × Int × (List DQ) × Int × (List UInt8) × (List (List UInt8)) × Int × Int × (List DQ)) → Option Bool) (a : List DQ) (b : List DQ) : Option (Bool) :=
 (bif (!decide ((a.length : Int) = (b.length : Int))) then
 (some false)
 else
 (iter (fun (go : ((List DQ) × (List DQ) × Int) → Option Bool) (g : (List DQ) × (List DQ) × Int) =>
 match g with
 | (a2, b2, i) =>
 (bif (decide (i < (a2.length : Int))) then
 (Option.bind (idx a2 i) fun (e : DQ) =>
 (Option.bind (idx b2 i) fun (e2 : DQ) =>
 (Option.bind (F (e.kind, e.field, e.words, e.lo, e.hi, e.kids, e2.kind, e2.field, e2.words, e2.lo, e2.hi, e2.kids)) fun (r : Bool) =>
 (bif (!r) then
 (some false)
 else
 (if fits (i + 1) then (go (a2, b2, (i + 1))) else none)))))
 else
 (some true))) N (a, b, 0)))
def l_eqQueryS_M (N : Nat) (F : (Int × (List UInt8) × (List (List UInt8)) × Int × Int × (List DQ) × Int × (List UInt8) × (List (List UInt8)) × Int × Int × (List DQ)) → Option Bool) : Model := ⟨l_eqQueryS_arg, l_eqQueryS_ret, fun a => l_eqQueryS_m N F a.1 a.2⟩
set_option maxRecDepth 1000000 in
theorem l_eqQueryS_ok (N : Nat) (F : (Int × (List UInt8) × (List (List UInt8)) × Int × Int × (List DQ) × Int × (List UInt8) × (List (List UInt8)) × Int × Int × (List DQ)) → Option Bool) (hF : ModelOk Tryd.prog 22 ⟨l_eqQuery_arg, l_eqQuery_ret, F⟩) : ModelOk Tryd.prog 32 (l_eqQueryS_M N F) :=
  modelOk_of (E := mkEnv [(22, ⟨l_eqQuery_arg, l_eqQuery_ret, F⟩)] [] []) (mkEnv_ok (fnsOk_cons hF fnsOk_nil) _ _) Tryd.func32 (by kernel_rfl) rfl N l_eqQueryS_h (l_eqQueryS_M N F) (by kernel_rfl) (by kernel_rfl) (fun a => by kernel_rfl)
def l_eqQuery_h : Hint := .no
def l_eqQuery_m (N : Nat) : (D : Nat) → Int → (List UInt8) → (List (List UInt8)) → Int → Int → (List DQ) → Int → (List UInt8) → (List (List UInt8)) → Int → Int → (List DQ) → Option (Bool)
 | 0, _, _, _, _, _, _, _, _, _, _, _, _ => none
 | D + 1, a, a2, a3, a4, a5, a6, b, b2, b3, b4, b5, b6 =>
 (bif (!decide (a = b)) then
 (some false)
 else
 (bif (!decide (a2 = b2)) then
 (some false)
 else
 (Option.bind (l_eqStringS_m N a3 b3) fun (r : Bool) =>
 (bif (!r) then
 (some false)
 else
 (bif (!decide (a4 = b4)) then
 (some false)
 else
 (bif (!decide (a5 = b5)) then
 (some false)
 else
 (Option.bind (l_eqQueryS_m N (fun a => l_eqQuery_m N D a.1 a.2.1 a.2.2.1 a.2.2.2.1 a.2.2.2.2.1 a.2.2.2.2.2.1 a.2.2.2.2.2.2.1 a.2.2.2.2.2.2.2.1 a.2.2.2.2.2.2.2.2.1 a.2.2.2.2.2.2.2.2.2.1 a.2.2.2.2.2.2.2.2.2.2.1 a.2.2.2.2.2.2.2.2.2.2.2) a6 b6) fun (r2 : Bool) =>
 (bif (!r2) then
 (some false)
 else
 (some true)))))))))
def l_eqQuery_M (N D : Nat) : Model := ⟨l_eqQuery_arg, l_eqQuery_ret, fun a => l_eqQuery_m N D a.1 a.2.1 a.2.2.1 a.2.2.2.1 a.2.2.2.2.1 a.2.2.2.2.2.1 a.2.2.2.2.2.2.1 a.2.2.2.2.2.2.2.1 a.2.2.2.2.2.2.2.2.1 a.2.2.2.2.2.2.2.2.2.1 a.2.2.2.2.2.2.2.2.2.2.1 a.2.2.2.2.2.2.2.2.2.2.2⟩
set_option maxRecDepth 1000000 in
theorem l_eqQuery_step (N D : Nat) (ih : ModelOk Tryd.prog 22 (l_eqQuery_M N D)) : ModelOk Tryd.prog 22 (l_eqQuery_M N (D + 1)) :=
  modelOk_of (E := mkEnv [(22, l_eqQuery_M N D), (31, l_eqStringS_M N), (32, l_eqQueryS_M N (fun a => l_eqQuery_m N D a.1 a.2.1 a.2.2.1 a.2.2.2.1 a.2.2.2.2.1 a.2.2.2.2.2.1 a.2.2.2.2.2.2.1 a.2.2.2.2.2.2.2.1 a.2.2.2.2.2.2.2.2.1 a.2.2.2.2.2.2.2.2.2.1 a.2.2.2.2.2.2.2.2.2.2.1 a.2.2.2.2.2.2.2.2.2.2.2))] [] []) (mkEnv_ok (fnsOk_cons ih (fnsOk_cons (l_eqStringS_ok N) (fnsOk_cons (l_eqQueryS_ok N _ ih) fnsOk_nil))) _ _) Tryd.func22 (by kernel_rfl) rfl N l_eqQuery_h (l_eqQuery_M N (D + 1)) (by kernel_rfl) (by kernel_rfl) (fun a => by kernel_rfl)
theorem l_eqQuery_ok (N : Nat) : ∀ D, ModelOk Tryd.prog 22 (l_eqQuery_M N D)
  | 0 => modelOk_none ⟨_, Tryd.func22, by decide, by kernel_rfl⟩ _ (fun a => rfl)
  | D + 1 => l_eqQuery_step N D (l_eqQuery_ok N D)
def l_eqAlert_arg : Sh := ⟨[.agg [.pv .str, .pv (.int .i64), .pv .str, .pv (.sl .str), .pv (.int .i64), .pv (.int .i64), .pv (.sl .q)], .agg [.pv .str, .pv (.int .i64), .pv .str, .pv (.sl .str), .pv (.int .i64), .pv (.int .i64), .pv (.sl .q)]], []⟩
def l_eqAlert_ret : Sh := ⟨[.pv .bool], []⟩
def l_eqAlert_h : Hint := .no
def l_eqAlert_m (N : Nat) (a : List UInt8) (a2 : Int) (a3 : List UInt8) (a4 : List (List UInt8)) (a5 : Int) (a6 : Int) (a7 : List DQ) (b : List UInt8) (b2 : Int) (b3 : List UInt8) (b4 : List (List UInt8)) (b5 : Int) (b6 : Int) (b7 : List DQ) : Option (Bool) :=
 (bif (!decide (a = b)) then
 (some false)
 else
 (Option.bind (l_eqQuery_m N N a2 a3 a4 a5 a6 a7 b2 b3 b4 b5 b6 b7) fun (r : Bool) =>
 (bif (!r) then
 (some false)
 else
 (some true))))
def l_eqAlert_M (N : Nat) : Model := ⟨l_eqAlert_arg, l_eqAlert_ret, fun a => l_eqAlert_m N a.1 a.2.1 a.2.2.1 a.2.2.2.1 a.2.2.2.2.1 a.2.2.2.2.2.1 a.2.2.2.2.2.2.1 a.2.2.2.2.2.2.2.1 a.2.2.2.2.2.2.2.2.1 a.2.2.2.2.2.2.2.2.2.1 a.2.2.2.2.2.2.2.2.2.2.1 a.2.2.2.2.2.2.2.2.2.2.2.1 a.2.2.2.2.2.2.2.2.2.2.2.2.1 a.2.2.2.2.2.2.2.2.2.2.2.2.2⟩
set_option maxRecDepth 1000000 in
theorem l_eqAlert_ok (N : Nat) : ModelOk Tryd.prog 14 (l_eqAlert_M N) :=
  modelOk_of (E := mkEnv [(22, l_eqQuery_M N N)] [] []) (mkEnv_ok (fnsOk_cons (l_eqQuery_ok N N) fnsOk_nil) _ _) Tryd.func14 (by kernel_rfl) rfl N l_eqAlert_h (l_eqAlert_M N) (by kernel_rfl) (by kernel_rfl) (fun a => by kernel_rfl)
def l_eqAlertS_arg : Sh := ⟨[.pv (.sl (.pair .str .q)), .pv (.sl (.pair .str .q))], []⟩
def l_eqAlertS_ret : Sh := ⟨[.pv .bool], []⟩
def l_eqAlertS_s1 : Sh := ⟨[.pv (.sl (.pair .str .q)), .pv (.sl (.pair .str .q)), .dead, .dead, .dead, .pv (.int .i64), .dead, .dead, .dead, .dead, .dead, .dead, .dead, .dead, .dead, .dead, .dead, .dead, .dead, .dead, .dead, .dead, .dead, .dead, .dead, .dead, .dead], []⟩
def l_eqAlertS_h : Hint := (.seq .no (.seq .no (.seq (.seq .no (.block (.loop l_eqAlertS_s1 .no))) .no)))
def l_eqAlertS_m (N : Nat) (a : List ((List UInt8) × DQ)) (b : List ((List UInt8) × DQ)) : Option (Bool) :=
 (bif (!decide ((a.length : Int) = (b.length : Int))) then
 (some false)
 else
 (iter (fun (go : ((List ((List UInt8) × DQ)) × (List ((List UInt8) × DQ)) × Int) → Option Bool) (g : (List ((List UInt8) × DQ)) × (List ((List UInt8) × DQ)) × Int) =>
 match g with
 | (a2, b2, i) =>
 (bif (decide (i < (a2.length : Int))) then
 (Option.bind (idx a2 i) fun (e : (List UInt8) × DQ) =>
 (Option.bind (idx b2 i) fun (e2 : (List UInt8) × DQ) =>
 (Option.bind (l_eqAlert_m N e.1 e.2.kind e.2.field e.2.words e.2.lo e.2.hi e.2.kids e2.1 e2.2.kind e2.2.field e2.2.words e2.2.lo e2.2.hi e2.2.kids) fun (r : Bool) =>
 (bif (!r) then
 (some false)
 else
 (if fits (i + 1) then (go (a2, b2, (i + 1))) else none)))))
 else
 (some true))) N (a, b, 0)))
def l_eqAlertS_M (N : Nat) : Model := ⟨l_eqAlertS_arg, l_eqAlertS_ret, fun a => l_eqAlertS_m N a.1 a.2⟩
set_option maxRecDepth 1000000 in
theorem l_eqAlertS_ok (N : Nat) : ModelOk Tryd.prog 8 (l_eqAlertS_M N) :=
  modelOk_of (E := mkEnv [(14, l_eqAlert_M N)] [] []) (mkEnv_ok (fnsOk_cons (l_eqAlert_ok N) fnsOk_nil) _ _) Tryd.func8 (by kernel_rfl) rfl N l_eqAlertS_h (l_eqAlertS_M N) (by kernel_rfl) (by kernel_rfl) (fun a => by kernel_rfl)
def l_FnExactAlertsOk_arg : Sh := ⟨[.pv (.sl (.pair .str .q))], []⟩
def l_FnExactAlertsOk_ret : Sh := ⟨[.pv .bool], []⟩
def l_FnExactAlertsOk_h : Hint := .no
def l_FnExactAlertsOk_m (N : Nat) (aList : List ((List UInt8) × DQ)) : Option (Bool) :=
 (Option.bind (l_szAlertS_m N aList 1048576) fun (r : Int) =>
 (bif (decide (r < 0)) then
 (some true)
 else
 (Option.bind (l_toAlertS_m N aList) fun (r2 : (List ((List UInt8) × DQ))) =>
 (Option.bind (s_AlertsOk_m N r2) fun (r3 : Bool) =>
 (Option.bind (l_toAlertS_m N aList) fun (r4 : (List ((List UInt8) × DQ))) =>
 (Option.bind (i_AlertsOk_m N r4) fun (r5 : Bool) =>
 (bif (!(r5 == r3)) then
 (some false)
 else
 (Option.bind (l_toAlertS_m N aList) fun (r6 : (List ((List UInt8) × DQ))) =>
 (Option.bind (l_eqAlertS_m N r4 r6) fun (r7 : Bool) =>
 (bif (!r7) then
 (some false)
 else
 (some true)))))))))))
def l_FnExactAlertsOk_M (N : Nat) : Model := ⟨l_FnExactAlertsOk_arg, l_FnExactAlertsOk_ret, fun a => l_FnExactAlertsOk_m N a⟩
set_option maxRecDepth 1000000 in
theorem l_FnExactAlertsOk_ok (N : Nat) : ModelOk Tryd.prog 3 (l_FnExactAlertsOk_M N) :=
  modelOk_of (E := mkEnv [(4, l_szAlertS_M N), (6, l_toAlertS_M N), (5, s_AlertsOk_M N), (7, i_AlertsOk_M N), (8, l_eqAlertS_M N)] [] [] [13, 16, 18, 24, 25]) (mkEnv_ok (fnsOk_cons (l_szAlertS_ok N) (fnsOk_cons (l_toAlertS_ok N) (fnsOk_cons (s_AlertsOk_ok N) (fnsOk_cons (i_AlertsOk_ok N) (fnsOk_cons (l_eqAlertS_ok N) fnsOk_nil))))) _ _ _) Tryd.func3 (by kernel_rfl) rfl N l_FnExactAlertsOk_h (l_FnExactAlertsOk_M N) (by kernel_rfl) (by kernel_rfl) (fun a => by kernel_rfl)
end Go.Proofs.YtokkfonfajgomaaDoor
