import Derived.Test.YtjggioppicabbaaKTab
set_option linter.unusedVariables false
set_option linter.unusedSimpArgs false
namespace Go.Proofs.Ytjggioppicabbaa
open Go.RowKit
/-! loop.example/fossick/laws.szField -/
def l_szField_arg : Sh := ⟨[.agg [.pv .str, .pv .str], .pv (.int .i64)], []⟩
def l_szField_ret : Sh := ⟨[.pv (.int .i64)], []⟩
def l_szField_h : Hint := .no
def l_szField_m (N : Nat) (a : List UInt8) (a2 : List UInt8) (left : Int) : Option (Int) :=
  (if fits (left - (a.length : Int)) then (bif (decide ((left - (a.length : Int)) < 0)) then
      (some (-1))
      else
      (if fits ((left - (a.length : Int)) - (a2.length : Int)) then (bif (decide (((left - (a.length : Int)) - (a2.length : Int)) < 0)) then
          (some (-1))
          else
          (some ((left - (a.length : Int)) - (a2.length : Int)))) else none)) else none)
def l_szField_M (N : Nat) : Model := ⟨l_szField_arg, l_szField_ret, fun a => l_szField_m N a.1 a.2.1 a.2.2⟩
set_option maxRecDepth 1000000 in
theorem l_szField_ok (N : Nat) : ModelOk Try.prog 68 (l_szField_M N) :=
  modelOk_of (E := mkEnv [] [] []) (mkEnv_ok fnsOk_nil _ _) Try.func68 (by kernel_rfl) rfl N l_szField_h (l_szField_M N) (by kernel_rfl) (by kernel_rfl) (fun a => by kernel_rfl)
/-! loop.example/fossick/laws.szFieldS -/
def l_szFieldS_arg : Sh := ⟨[.pv (.sl (.pair .str .str)), .pv (.int .i64)], []⟩
def l_szFieldS_ret : Sh := ⟨[.pv (.int .i64)], []⟩
def l_szFieldS_s1 : Sh := ⟨[.pv (.sl (.pair .str .str)), .pv (.int .i64), .dead, .dead, .dead, .pv (.int .i64), .dead, .dead, .dead, .dead, .dead, .dead, .dead, .dead, .dead, .dead, .dead, .dead, .dead, .dead, .dead, .dead, .dead, .dead, .dead, .dead, .dead], []⟩
def l_szFieldS_h : Hint := (.seq .no (.seq .no (.seq .no (.seq (.seq .no (.block (.loop l_szFieldS_s1 .no))) .no))))
def l_szFieldS_m (N : Nat) (a : List ((List UInt8) × (List UInt8))) (left : Int) : Option (Int) :=
  (if fits (left - (a.length : Int)) then (bif (decide ((left - (a.length : Int)) < 0)) then
      (some (-1))
      else
      (iter (fun (go : ((List ((List UInt8) × (List UInt8))) × Int × Int) → Option Int) (g : (List ((List UInt8) × (List UInt8))) × Int × Int) => 
          match g with
          | (a2, left2, i) =>
          (bif (decide (i < (a2.length : Int))) then
            (Option.bind (idx a2 i) fun (e : (List UInt8) × (List UInt8)) =>
              (Option.bind (l_szField_m N e.1 e.2 left2) fun (r : Int) =>
                (bif (decide (r < 0)) then
                  (some (-1))
                  else
                  (if fits (i + 1) then (go (a2, r, (i + 1))) else none))))
            else
            (some left2))) N (a, (left - (a.length : Int)), 0))) else none)
def l_szFieldS_M (N : Nat) : Model := ⟨l_szFieldS_arg, l_szFieldS_ret, fun a => l_szFieldS_m N a.1 a.2⟩
set_option maxRecDepth 1000000 in
theorem l_szFieldS_ok (N : Nat) : ModelOk Try.prog 38 (l_szFieldS_M N) :=
  modelOk_of (E := mkEnv [(68, l_szField_M N)] [] []) (mkEnv_ok (fnsOk_cons (l_szField_ok N) fnsOk_nil) _ _) Try.func38 (by kernel_rfl) rfl N l_szFieldS_h (l_szFieldS_M N) (by kernel_rfl) (by kernel_rfl) (fun a => by kernel_rfl)
/-! loop.example/fossick/laws.szAttr -/
def l_szAttr_arg : Sh := ⟨[.agg [.pv .str, .pv (.int .i64)], .pv (.int .i64)], []⟩
def l_szAttr_ret : Sh := ⟨[.pv (.int .i64)], []⟩
def l_szAttr_h : Hint := .no
def l_szAttr_m (N : Nat) (a : List UInt8) (a2 : Int) (left : Int) : Option (Int) :=
  (if fits (left - (a.length : Int)) then (bif (decide ((left - (a.length : Int)) < 0)) then
      (some (-1))
      else
      (some (left - (a.length : Int)))) else none)
def l_szAttr_M (N : Nat) : Model := ⟨l_szAttr_arg, l_szAttr_ret, fun a => l_szAttr_m N a.1 a.2.1 a.2.2⟩
set_option maxRecDepth 1000000 in
theorem l_szAttr_ok (N : Nat) : ModelOk Try.prog 69 (l_szAttr_M N) :=
  modelOk_of (E := mkEnv [] [] []) (mkEnv_ok fnsOk_nil _ _) Try.func69 (by kernel_rfl) rfl N l_szAttr_h (l_szAttr_M N) (by kernel_rfl) (by kernel_rfl) (fun a => by kernel_rfl)
/-! loop.example/fossick/laws.szAttrS -/
def l_szAttrS_arg : Sh := ⟨[.pv (.sl (.pair .str (.int .i64))), .pv (.int .i64)], []⟩
def l_szAttrS_ret : Sh := ⟨[.pv (.int .i64)], []⟩
def l_szAttrS_s1 : Sh := ⟨[.pv (.sl (.pair .str (.int .i64))), .pv (.int .i64), .dead, .dead, .dead, .pv (.int .i64), .dead, .dead, .dead, .dead, .dead, .dead, .dead, .dead, .dead, .dead, .dead, .dead, .dead, .dead, .dead, .dead, .dead, .dead, .dead, .dead, .dead], []⟩
def l_szAttrS_h : Hint := (.seq .no (.seq .no (.seq .no (.seq (.seq .no (.block (.loop l_szAttrS_s1 .no))) .no))))
def l_szAttrS_m (N : Nat) (a : List ((List UInt8) × Int)) (left : Int) : Option (Int) :=
  (if fits (left - (a.length : Int)) then (bif (decide ((left - (a.length : Int)) < 0)) then
      (some (-1))
      else
      (iter (fun (go : ((List ((List UInt8) × Int)) × Int × Int) → Option Int) (g : (List ((List UInt8) × Int)) × Int × Int) => 
          match g with
          | (a2, left2, i) =>
          (bif (decide (i < (a2.length : Int))) then
            (Option.bind (idx a2 i) fun (e : (List UInt8) × Int) =>
              (Option.bind (l_szAttr_m N e.1 e.2 left2) fun (r : Int) =>
                (bif (decide (r < 0)) then
                  (some (-1))
                  else
                  (if fits (i + 1) then (go (a2, r, (i + 1))) else none))))
            else
            (some left2))) N (a, (left - (a.length : Int)), 0))) else none)
def l_szAttrS_M (N : Nat) : Model := ⟨l_szAttrS_arg, l_szAttrS_ret, fun a => l_szAttrS_m N a.1 a.2⟩
set_option maxRecDepth 1000000 in
theorem l_szAttrS_ok (N : Nat) : ModelOk Try.prog 39 (l_szAttrS_M N) :=
  modelOk_of (E := mkEnv [(69, l_szAttr_M N)] [] []) (mkEnv_ok (fnsOk_cons (l_szAttr_ok N) fnsOk_nil) _ _) Try.func39 (by kernel_rfl) rfl N l_szAttrS_h (l_szAttrS_M N) (by kernel_rfl) (by kernel_rfl) (fun a => by kernel_rfl)
/-! loop.example/fossick/laws.szDoc -/
def l_szDoc_arg : Sh := ⟨[.agg [.pv (.int .i64), .pv (.sl (.pair .str .str)), .pv (.sl (.pair .str (.int .i64)))], .pv (.int .i64)], []⟩
def l_szDoc_ret : Sh := ⟨[.pv (.int .i64)], []⟩
def l_szDoc_h : Hint := .no
def l_szDoc_m (N : Nat) (a : Int) (a2 : List ((List UInt8) × (List UInt8))) (a3 : List ((List UInt8) × Int)) (left : Int) : Option (Int) :=
  (Option.bind (l_szFieldS_m N a2 left) fun (r : Int) =>
    (bif (decide (r < 0)) then
      (some (-1))
      else
      (Option.bind (l_szAttrS_m N a3 r) fun (r2 : Int) =>
        (bif (decide (r2 < 0)) then
          (some (-1))
          else
          (some r2)))))
def l_szDoc_M (N : Nat) : Model := ⟨l_szDoc_arg, l_szDoc_ret, fun a => l_szDoc_m N a.1 a.2.1 a.2.2.1 a.2.2.2⟩
set_option maxRecDepth 1000000 in
theorem l_szDoc_ok (N : Nat) : ModelOk Try.prog 10 (l_szDoc_M N) :=
  modelOk_of (E := mkEnv [(38, l_szFieldS_M N), (39, l_szAttrS_M N)] [] []) (mkEnv_ok (fnsOk_cons (l_szFieldS_ok N) (fnsOk_cons (l_szAttrS_ok N) fnsOk_nil)) _ _) Try.func10 (by kernel_rfl) rfl N l_szDoc_h (l_szDoc_M N) (by kernel_rfl) (by kernel_rfl) (fun a => by kernel_rfl)
/-! loop.example/fossick/laws.szKey -/
def l_szKey_arg : Sh := ⟨[.agg [.pv .str, .pv .bool], .pv (.int .i64)], []⟩
def l_szKey_ret : Sh := ⟨[.pv (.int .i64)], []⟩
def l_szKey_h : Hint := .no
def l_szKey_m (N : Nat) (a : List UInt8) (a2 : Bool) (left : Int) : Option (Int) :=
  (if fits (left - (a.length : Int)) then (bif (decide ((left - (a.length : Int)) < 0)) then
      (some (-1))
      else
      (some (left - (a.length : Int)))) else none)
def l_szKey_M (N : Nat) : Model := ⟨l_szKey_arg, l_szKey_ret, fun a => l_szKey_m N a.1 a.2.1 a.2.2⟩
set_option maxRecDepth 1000000 in
theorem l_szKey_ok (N : Nat) : ModelOk Try.prog 40 (l_szKey_M N) :=
  modelOk_of (E := mkEnv [] [] []) (mkEnv_ok fnsOk_nil _ _) Try.func40 (by kernel_rfl) rfl N l_szKey_h (l_szKey_M N) (by kernel_rfl) (by kernel_rfl) (fun a => by kernel_rfl)
/-! loop.example/fossick/laws.szKeyS -/
def l_szKeyS_arg : Sh := ⟨[.pv (.sl (.pair .str .bool)), .pv (.int .i64)], []⟩
def l_szKeyS_ret : Sh := ⟨[.pv (.int .i64)], []⟩
def l_szKeyS_s1 : Sh := ⟨[.pv (.sl (.pair .str .bool)), .pv (.int .i64), .dead, .dead, .dead, .pv (.int .i64), .dead, .dead, .dead, .dead, .dead, .dead, .dead, .dead, .dead, .dead, .dead, .dead, .dead, .dead, .dead, .dead, .dead, .dead, .dead, .dead, .dead], []⟩
def l_szKeyS_h : Hint := (.seq .no (.seq .no (.seq .no (.seq (.seq .no (.block (.loop l_szKeyS_s1 .no))) .no))))
def l_szKeyS_m (N : Nat) (a : List ((List UInt8) × Bool)) (left : Int) : Option (Int) :=
  (if fits (left - (a.length : Int)) then (bif (decide ((left - (a.length : Int)) < 0)) then
      (some (-1))
      else
      (iter (fun (go : ((List ((List UInt8) × Bool)) × Int × Int) → Option Int) (g : (List ((List UInt8) × Bool)) × Int × Int) => 
          match g with
          | (a2, left2, i) =>
          (bif (decide (i < (a2.length : Int))) then
            (Option.bind (idx a2 i) fun (e : (List UInt8) × Bool) =>
              (Option.bind (l_szKey_m N e.1 e.2 left2) fun (r : Int) =>
                (bif (decide (r < 0)) then
                  (some (-1))
                  else
                  (if fits (i + 1) then (go (a2, r, (i + 1))) else none))))
            else
            (some left2))) N (a, (left - (a.length : Int)), 0))) else none)
def l_szKeyS_M (N : Nat) : Model := ⟨l_szKeyS_arg, l_szKeyS_ret, fun a => l_szKeyS_m N a.1 a.2⟩
set_option maxRecDepth 1000000 in
theorem l_szKeyS_ok (N : Nat) : ModelOk Try.prog 11 (l_szKeyS_M N) :=
  modelOk_of (E := mkEnv [(40, l_szKey_M N)] [] []) (mkEnv_ok (fnsOk_cons (l_szKey_ok N) fnsOk_nil) _ _) Try.func11 (by kernel_rfl) rfl N l_szKeyS_h (l_szKeyS_M N) (by kernel_rfl) (by kernel_rfl) (fun a => by kernel_rfl)
/-! loop.example/fossick/laws.toField -/
def l_toField_arg : Sh := ⟨[.agg [.pv .str, .pv .str]], []⟩
def l_toField_ret : Sh := ⟨[.agg [.pv .str, .pv .str]], []⟩
def l_toField_h : Hint := .no
def l_toField_m (N : Nat) (a : List UInt8) (a2 : List UInt8) : Option ((List UInt8) × (List UInt8)) :=
  (some (a, a2))
def l_toField_M (N : Nat) : Model := ⟨l_toField_arg, l_toField_ret, fun a => l_toField_m N a.1 a.2⟩
set_option maxRecDepth 1000000 in
theorem l_toField_ok (N : Nat) : ModelOk Try.prog 74 (l_toField_M N) :=
  modelOk_of (E := mkEnv [] [] []) (mkEnv_ok fnsOk_nil _ _) Try.func74 (by kernel_rfl) rfl N l_toField_h (l_toField_M N) (by kernel_rfl) (by kernel_rfl) (fun a => by kernel_rfl)
/-! loop.example/fossick/laws.toFieldS -/
def l_toFieldS_arg : Sh := ⟨[.pv (.sl (.pair .str .str))], []⟩
def l_toFieldS_ret : Sh := ⟨[.own 1 (.pair .str .str) 87 true], []⟩
def l_toFieldS_s1 : Sh := ⟨[.pv (.sl (.pair .str .str)), .dead, .dead, .mtk 600003 (.pair .str .str) 87 true, .pv (.int .i64), .dead, .dead, .dead, .dead, .dead, .dead, .dead, .dead, .dead, .dead, .dead, .dead, .dead, .dead, .dead, .dead, .dead, .dead], []⟩
def l_toFieldS_h : Hint := (.seq .no (.seq .no (.seq (.seq .no (.block (.loop l_toFieldS_s1 .no))) .no)))
def l_toFieldS_m (N : Nat) (a : List ((List UInt8) × (List UInt8))) : Option ((List ((List UInt8) × (List UInt8)))) :=
  (if (a.length : Int) = (a.length : Int) ∧ 0 ≤ (a.length : Int) ∧ (a.length : Int) * 32 ≤ 140737488355328 ∧ (a.length : Int) ≤ 140737488355328 then
    (iter (fun (go : ((List ((List UInt8) × (List UInt8))) × (List ((List UInt8) × (List UInt8))) × Int) → Option ((List ((List UInt8) × (List UInt8))))) (g : (List ((List UInt8) × (List UInt8))) × (List ((List UInt8) × (List UInt8))) × Int) => 
        match g with
        | (a2, out, i) =>
        (bif (decide (i < (a2.length : Int))) then
          (Option.bind (idx a2 i) fun (e : (List UInt8) × (List UInt8)) =>
            (Option.bind (l_toField_m N e.1 e.2) fun (r : (List UInt8) × (List UInt8)) =>
              (if 0 ≤ i ∧ i < (out.length : Int) then
                (Option.bind (out[i.toNat]?) fun (e2 : (List UInt8) × (List UInt8)) =>
                  (if fits (i + 1) then (go (a2, (out.set i.toNat r), (i + 1))) else none))
                else none)))
          else
          (some out))) N (a, (List.replicate (a.length : Int).toNat (([] : List UInt8), ([] : List UInt8))), 0))
    else none)
def l_toFieldS_M (N : Nat) : Model := ⟨l_toFieldS_arg, l_toFieldS_ret, fun a => l_toFieldS_m N a⟩
set_option maxRecDepth 1000000 in
theorem l_toFieldS_ok (N : Nat) : ModelOk Try.prog 44 (l_toFieldS_M N) :=
  modelOk_of (E := mkEnv [(74, l_toField_M N)] [7] [] [20]) (mkEnv_ok (fnsOk_cons (l_toField_ok N) fnsOk_nil) _ _ _) Try.func44 (by kernel_rfl) rfl N l_toFieldS_h (l_toFieldS_M N) (by kernel_rfl) (by kernel_rfl) (fun a => by kernel_rfl)
/-! loop.example/fossick/laws.toAttr -/
def l_toAttr_arg : Sh := ⟨[.agg [.pv .str, .pv (.int .i64)]], []⟩
def l_toAttr_ret : Sh := ⟨[.agg [.pv .str, .pv (.int .i64)]], []⟩
def l_toAttr_h : Hint := .no
def l_toAttr_m (N : Nat) (a : List UInt8) (a2 : Int) : Option ((List UInt8) × Int) :=
  (some (a, a2))
def l_toAttr_M (N : Nat) : Model := ⟨l_toAttr_arg, l_toAttr_ret, fun a => l_toAttr_m N a.1 a.2⟩
set_option maxRecDepth 1000000 in
theorem l_toAttr_ok (N : Nat) : ModelOk Try.prog 75 (l_toAttr_M N) :=
  modelOk_of (E := mkEnv [] [] []) (mkEnv_ok fnsOk_nil _ _) Try.func75 (by kernel_rfl) rfl N l_toAttr_h (l_toAttr_M N) (by kernel_rfl) (by kernel_rfl) (fun a => by kernel_rfl)
/-! loop.example/fossick/laws.toAttrS -/
def l_toAttrS_arg : Sh := ⟨[.pv (.sl (.pair .str (.int .i64)))], []⟩
def l_toAttrS_ret : Sh := ⟨[.own 1 (.pair .str (.int .i64)) 90 true], []⟩
def l_toAttrS_s1 : Sh := ⟨[.pv (.sl (.pair .str (.int .i64))), .dead, .dead, .mtk 600003 (.pair .str (.int .i64)) 90 true, .pv (.int .i64), .dead, .dead, .dead, .dead, .dead, .dead, .dead, .dead, .dead, .dead, .dead, .dead, .dead, .dead, .dead, .dead, .dead, .dead], []⟩
def l_toAttrS_h : Hint := (.seq .no (.seq .no (.seq (.seq .no (.block (.loop l_toAttrS_s1 .no))) .no)))
def l_toAttrS_m (N : Nat) (a : List ((List UInt8) × Int)) : Option ((List ((List UInt8) × Int))) :=
  (if (a.length : Int) = (a.length : Int) ∧ 0 ≤ (a.length : Int) ∧ (a.length : Int) * 24 ≤ 140737488355328 ∧ (a.length : Int) ≤ 140737488355328 then
    (iter (fun (go : ((List ((List UInt8) × Int)) × (List ((List UInt8) × Int)) × Int) → Option ((List ((List UInt8) × Int)))) (g : (List ((List UInt8) × Int)) × (List ((List UInt8) × Int)) × Int) => 
        match g with
        | (a2, out, i) =>
        (bif (decide (i < (a2.length : Int))) then
          (Option.bind (idx a2 i) fun (e : (List UInt8) × Int) =>
            (Option.bind (l_toAttr_m N e.1 e.2) fun (r : (List UInt8) × Int) =>
              (if 0 ≤ i ∧ i < (out.length : Int) then
                (Option.bind (out[i.toNat]?) fun (e2 : (List UInt8) × Int) =>
                  (if fits (i + 1) then (go (a2, (out.set i.toNat r), (i + 1))) else none))
                else none)))
          else
          (some out))) N (a, (List.replicate (a.length : Int).toNat (([] : List UInt8), 0)), 0))
    else none)
def l_toAttrS_M (N : Nat) : Model := ⟨l_toAttrS_arg, l_toAttrS_ret, fun a => l_toAttrS_m N a⟩
set_option maxRecDepth 1000000 in
theorem l_toAttrS_ok (N : Nat) : ModelOk Try.prog 45 (l_toAttrS_M N) :=
  modelOk_of (E := mkEnv [(75, l_toAttr_M N)] [7] [] [20]) (mkEnv_ok (fnsOk_cons (l_toAttr_ok N) fnsOk_nil) _ _ _) Try.func45 (by kernel_rfl) rfl N l_toAttrS_h (l_toAttrS_M N) (by kernel_rfl) (by kernel_rfl) (fun a => by kernel_rfl)
/-! loop.example/fossick/laws.toDoc -/
def l_toDoc_arg : Sh := ⟨[.agg [.pv (.int .i64), .pv (.sl (.pair .str .str)), .pv (.sl (.pair .str (.int .i64)))]], []⟩
def l_toDoc_ret : Sh := ⟨[.agg [.pv (.int .i64), .own 1 (.pair .str .str) 87 true, .own 2 (.pair .str (.int .i64)) 90 true]], []⟩
def l_toDoc_h : Hint := .no
def l_toDoc_m (N : Nat) (a : Int) (a2 : List ((List UInt8) × (List UInt8))) (a3 : List ((List UInt8) × Int)) : Option (Int × (List ((List UInt8) × (List UInt8))) × (List ((List UInt8) × Int))) :=
  (Option.bind (l_toFieldS_m N a2) fun (r : (List ((List UInt8) × (List UInt8)))) =>
    (Option.bind (l_toAttrS_m N a3) fun (r2 : (List ((List UInt8) × Int))) =>
      (some (a, r, r2))))
def l_toDoc_M (N : Nat) : Model := ⟨l_toDoc_arg, l_toDoc_ret, fun a => l_toDoc_m N a.1 a.2.1 a.2.2⟩
set_option maxRecDepth 1000000 in
theorem l_toDoc_ok (N : Nat) : ModelOk Try.prog 13 (l_toDoc_M N) :=
  modelOk_of (E := mkEnv [(44, l_toFieldS_M N), (45, l_toAttrS_M N)] [] [] [9, 13]) (mkEnv_ok (fnsOk_cons (l_toFieldS_ok N) (fnsOk_cons (l_toAttrS_ok N) fnsOk_nil)) _ _ _) Try.func13 (by kernel_rfl) rfl N l_toDoc_h (l_toDoc_M N) (by kernel_rfl) (by kernel_rfl) (fun a => by kernel_rfl)
/-! loop.example/fossick/laws.toKey -/
def l_toKey_arg : Sh := ⟨[.agg [.pv .str, .pv .bool]], []⟩
def l_toKey_ret : Sh := ⟨[.agg [.pv .str, .pv .bool]], []⟩
def l_toKey_h : Hint := .no
def l_toKey_m (N : Nat) (a : List UInt8) (a2 : Bool) : Option ((List UInt8) × Bool) :=
  (some (a, a2))
def l_toKey_M (N : Nat) : Model := ⟨l_toKey_arg, l_toKey_ret, fun a => l_toKey_m N a.1 a.2⟩
set_option maxRecDepth 1000000 in
theorem l_toKey_ok (N : Nat) : ModelOk Try.prog 46 (l_toKey_M N) :=
  modelOk_of (E := mkEnv [] [] []) (mkEnv_ok fnsOk_nil _ _) Try.func46 (by kernel_rfl) rfl N l_toKey_h (l_toKey_M N) (by kernel_rfl) (by kernel_rfl) (fun a => by kernel_rfl)
/-! loop.example/fossick/laws.toKeyS -/
def l_toKeyS_arg : Sh := ⟨[.pv (.sl (.pair .str .bool))], []⟩
def l_toKeyS_ret : Sh := ⟨[.own 1 (.pair .str .bool) 53 true], []⟩
def l_toKeyS_s1 : Sh := ⟨[.pv (.sl (.pair .str .bool)), .dead, .dead, .mtk 600003 (.pair .str .bool) 53 true, .pv (.int .i64), .dead, .dead, .dead, .dead, .dead, .dead, .dead, .dead, .dead, .dead, .dead, .dead, .dead, .dead, .dead, .dead, .dead, .dead], []⟩
def l_toKeyS_h : Hint := (.seq .no (.seq .no (.seq (.seq .no (.block (.loop l_toKeyS_s1 .no))) .no)))
def l_toKeyS_m (N : Nat) (a : List ((List UInt8) × Bool)) : Option ((List ((List UInt8) × Bool))) :=
  (if (a.length : Int) = (a.length : Int) ∧ 0 ≤ (a.length : Int) ∧ (a.length : Int) * 24 ≤ 140737488355328 ∧ (a.length : Int) ≤ 140737488355328 then
    (iter (fun (go : ((List ((List UInt8) × Bool)) × (List ((List UInt8) × Bool)) × Int) → Option ((List ((List UInt8) × Bool)))) (g : (List ((List UInt8) × Bool)) × (List ((List UInt8) × Bool)) × Int) => 
        match g with
        | (a2, out, i) =>
        (bif (decide (i < (a2.length : Int))) then
          (Option.bind (idx a2 i) fun (e : (List UInt8) × Bool) =>
            (Option.bind (l_toKey_m N e.1 e.2) fun (r : (List UInt8) × Bool) =>
              (if 0 ≤ i ∧ i < (out.length : Int) then
                (Option.bind (out[i.toNat]?) fun (e2 : (List UInt8) × Bool) =>
                  (if fits (i + 1) then (go (a2, (out.set i.toNat r), (i + 1))) else none))
                else none)))
          else
          (some out))) N (a, (List.replicate (a.length : Int).toNat (([] : List UInt8), false)), 0))
    else none)
def l_toKeyS_M (N : Nat) : Model := ⟨l_toKeyS_arg, l_toKeyS_ret, fun a => l_toKeyS_m N a⟩
set_option maxRecDepth 1000000 in
theorem l_toKeyS_ok (N : Nat) : ModelOk Try.prog 14 (l_toKeyS_M N) :=
  modelOk_of (E := mkEnv [(46, l_toKey_M N)] [7] [] [20]) (mkEnv_ok (fnsOk_cons (l_toKey_ok N) fnsOk_nil) _ _ _) Try.func14 (by kernel_rfl) rfl N l_toKeyS_h (l_toKeyS_M N) (by kernel_rfl) (by kernel_rfl) (fun a => by kernel_rfl)
/-! loop.example/fossick/spec.l1Fold -/
def s_l1Fold_arg : Sh := ⟨[.pv (.int .u8)], []⟩
def s_l1Fold_ret : Sh := ⟨[.pv (.int .u8)], []⟩
def s_l1Fold_h : Hint := .no
def s_l1Fold_m (N : Nat) (b : Int) : Option (Int) :=
  (bif (decide ((65 : Int) ≤ b)) then
    (bif (decide (b ≤ 90)) then
      (some (IntKind.u8.wrap (b + 32)))
      else
      (bif (decide ((97 : Int) ≤ b)) then
        (bif (decide (b ≤ 122)) then
          (some b)
          else
          (bif (decide ((48 : Int) ≤ b)) then
            (bif (decide (b ≤ 57)) then
              (some b)
              else
              (some 0))
            else
            (some 0)))
        else
        (bif (decide ((48 : Int) ≤ b)) then
          (bif (decide (b ≤ 57)) then
            (some b)
            else
            (some 0))
          else
          (some 0))))
    else
    (bif (decide ((97 : Int) ≤ b)) then
      (bif (decide (b ≤ 122)) then
        (some b)
        else
        (bif (decide ((48 : Int) ≤ b)) then
          (bif (decide (b ≤ 57)) then
            (some b)
            else
            (some 0))
          else
          (some 0)))
      else
      (bif (decide ((48 : Int) ≤ b)) then
        (bif (decide (b ≤ 57)) then
          (some b)
          else
          (some 0))
        else
        (some 0))))
def s_l1Fold_M (N : Nat) : Model := ⟨s_l1Fold_arg, s_l1Fold_ret, fun a => s_l1Fold_m N a⟩
set_option maxRecDepth 1000000 in
theorem s_l1Fold_ok (N : Nat) : ModelOk Try.prog 87 (s_l1Fold_M N) :=
  modelOk_of (E := mkEnv [] [] []) (mkEnv_ok fnsOk_nil _ _) Try.func87 (by kernel_rfl) rfl N s_l1Fold_h (s_l1Fold_M N) (by kernel_rfl) (by kernel_rfl) (fun a => by kernel_rfl)
/-! loop.example/fossick/spec.l1In -/
def s_l1In_arg : Sh := ⟨[.pv (.int .i64), .pv (.int .i64), .pv (.int .i64)], []⟩
def s_l1In_ret : Sh := ⟨[.pv .bool], []⟩
def s_l1In_h : Hint := .no
def s_l1In_m (N : Nat) (n : Int) (low : Int) (high : Int) : Option (Bool) :=
  (bif (decide (low ≤ n)) then
    (some (decide (n ≤ high)))
    else
    (some false))
def s_l1In_M (N : Nat) : Model := ⟨s_l1In_arg, s_l1In_ret, fun a => s_l1In_m N a.1 a.2.1 a.2.2⟩
set_option maxRecDepth 1000000 in
theorem s_l1In_ok (N : Nat) : ModelOk Try.prog 72 (s_l1In_M N) :=
  modelOk_of (E := mkEnv [] [] []) (mkEnv_ok fnsOk_nil _ _) Try.func72 (by kernel_rfl) rfl N s_l1In_h (s_l1In_M N) (by kernel_rfl) (by kernel_rfl) (fun a => by kernel_rfl)
/-! loop.example/fossick/spec.l1WordOk -/
def s_l1WordOk_arg : Sh := ⟨[.pv .str], []⟩
def s_l1WordOk_ret : Sh := ⟨[.pv .bool], []⟩
def s_l1WordOk_s1 : Sh := ⟨[.pv .str, .dead, .dead, .pv (.int .i64), .dead, .dead, .dead, .dead, .dead, .dead, .dead, .dead, .dead, .dead, .dead, .dead, .dead, .dead, .dead, .dead, .dead, .dead, .dead, .dead, .dead, .dead, .dead], []⟩
def s_l1WordOk_h : Hint := (.seq .no (.seq (.seq .no (.block (.loop s_l1WordOk_s1 .no))) .no))
def s_l1WordOk_m (N : Nat) (s : List UInt8) : Option (Bool) :=
  (iter (fun (go : ((List UInt8) × Int) → Option Bool) (g : (List UInt8) × Int) => 
      match g with
      | (s2, i) =>
      (bif (decide (i < (s2.length : Int))) then
        (Option.bind (idx s2 i) fun (c : UInt8) =>
          (Option.bind (s_l1Fold_m N (c.toNat : Int)) fun (r : Int) =>
            (Option.bind (idx s2 i) fun (c2 : UInt8) =>
              (bif (!decide (r = (c2.toNat : Int))) then
                (some false)
                else
                (Option.bind (idx s2 i) fun (c3 : UInt8) =>
                  (bif (decide ((c3.toNat : Int) = 0)) then
                    (some false)
                    else
                    (if fits (i + 1) then (go (s2, (i + 1))) else none)))))))
        else
        (Option.bind (s_l1In_m N (s2.length : Int) 1 12) fun (r2 : Bool) =>
          (some r2)))) N (s, 0))
def s_l1WordOk_M (N : Nat) : Model := ⟨s_l1WordOk_arg, s_l1WordOk_ret, fun a => s_l1WordOk_m N a⟩
set_option maxRecDepth 1000000 in
theorem s_l1WordOk_ok (N : Nat) : ModelOk Try.prog 70 (s_l1WordOk_M N) :=
  modelOk_of (E := mkEnv [(87, s_l1Fold_M N), (72, s_l1In_M N)] [] []) (mkEnv_ok (fnsOk_cons (s_l1Fold_ok N) (fnsOk_cons (s_l1In_ok N) fnsOk_nil)) _ _) Try.func70 (by kernel_rfl) rfl N s_l1WordOk_h (s_l1WordOk_M N) (by kernel_rfl) (by kernel_rfl) (fun a => by kernel_rfl)
/-! loop.example/fossick/spec.l1Text -/
def s_l1Text_arg : Sh := ⟨[.pv .str], []⟩
def s_l1Text_ret : Sh := ⟨[.pv .bool], []⟩
def s_l1Text_s1 : Sh := ⟨[.pv .str, .dead, .dead, .pv (.int .i64), .dead, .dead, .dead, .dead, .dead, .dead, .dead, .dead, .dead, .dead, .dead, .dead, .dead, .dead, .dead, .dead, .dead, .dead, .dead], []⟩
def s_l1Text_h : Hint := (.seq .no (.seq (.seq .no (.block (.loop s_l1Text_s1 .no))) .no))
def s_l1Text_m (N : Nat) (s : List UInt8) : Option (Bool) :=
  (iter (fun (go : ((List UInt8) × Int) → Option Bool) (g : (List UInt8) × Int) => 
      match g with
      | (s2, i) =>
      (bif (decide (i < (s2.length : Int))) then
        (Option.bind (idx s2 i) fun (c : UInt8) =>
          (bif (decide ((c.toNat : Int) < 32)) then
            (some false)
            else
            (Option.bind (idx s2 i) fun (c2 : UInt8) =>
              (bif (decide ((126 : Int) < (c2.toNat : Int))) then
                (some false)
                else
                (if fits (i + 1) then (go (s2, (i + 1))) else none)))))
        else
        (some (decide ((s2.length : Int) ≤ 160))))) N (s, 0))
def s_l1Text_M (N : Nat) : Model := ⟨s_l1Text_arg, s_l1Text_ret, fun a => s_l1Text_m N a⟩
set_option maxRecDepth 1000000 in
theorem s_l1Text_ok (N : Nat) : ModelOk Try.prog 71 (s_l1Text_M N) :=
  modelOk_of (E := mkEnv [] [] []) (mkEnv_ok fnsOk_nil _ _) Try.func71 (by kernel_rfl) rfl N s_l1Text_h (s_l1Text_M N) (by kernel_rfl) (by kernel_rfl) (fun a => by kernel_rfl)
/-! loop.example/fossick/spec.l6Ok -/
def s_l6Ok_arg : Sh := ⟨[.agg [.pv (.int .i64), .pv (.sl (.pair .str .str)), .pv (.sl (.pair .str (.int .i64)))]], []⟩
def s_l6Ok_ret : Sh := ⟨[.pv .bool], []⟩
def s_l6Ok_s1 : Sh := ⟨[.dead, .box 1 0, .dead, .pv (.int .i64), .dead, .dead, .dead, .dead, .dead, .dead, .dead, .dead, .dead, .dead, .dead, .dead, .dead, .dead, .dead, .dead, .dead, .dead, .dead, .dead, .dead, .dead, .dead, .dead, .dead, .dead, .dead, .dead, .dead, .dead, .dead, .dead, .dead, .dead, .dead, .dead, .dead, .dead, .dead, .dead, .dead, .dead, .dead, .dead, .dead, .dead, .dead, .dead, .dead, .dead, .dead, .dead, .dead, .dead, .dead, .dead, .dead, .dead, .dead, .dead, .dead, .dead, .dead, .dead, .dead, .dead, .dead, .dead, .dead, .dead, .dead, .dead, .dead, .dead, .dead, .dead, .dead, .dead, .dead, .dead, .dead, .dead, .dead, .dead, .dead, .dead, .dead, .dead, .dead, .dead, .dead, .dead, .dead, .dead, .dead, .dead, .dead, .dead, .dead, .dead], [(1, false, [.pv (.int .i64), .pv (.sl (.pair .str .str)), .pv (.sl (.pair .str (.int .i64)))])]⟩
def s_l6Ok_s2 : Sh := ⟨[.dead, .box 1 0, .dead, .dead, .dead, .pv (.int .i64), .dead, .dead, .dead, .dead, .dead, .dead, .dead, .dead, .dead, .dead, .dead, .dead, .dead, .dead, .dead, .dead, .dead, .dead, .dead, .dead, .dead, .dead, .dead, .dead, .dead, .dead, .dead, .dead, .dead, .dead, .dead, .dead, .dead, .dead, .dead, .dead, .dead, .dead, .dead, .dead, .dead, .dead, .dead, .dead, .dead, .dead, .dead, .dead, .dead, .dead, .dead, .dead, .dead, .dead, .dead, .dead, .dead, .dead, .dead, .dead, .dead, .dead, .dead, .dead, .dead, .dead, .dead, .dead, .dead, .dead, .dead, .dead, .dead, .dead, .dead, .dead, .dead, .dead, .dead, .dead, .dead, .dead, .dead, .dead, .dead, .dead, .dead, .dead, .dead, .dead, .dead, .dead, .dead, .dead, .dead, .dead, .dead, .dead], [(1, false, [.pv (.int .i64), .pv (.sl (.pair .str .str)), .pv (.sl (.pair .str (.int .i64)))])]⟩
def s_l6Ok_h : Hint := (.seq .no (.seq (.seq .no (.block (.loop s_l6Ok_s1 .no))) (.seq (.seq .no (.block (.loop s_l6Ok_s2 .no))) .no)))
def s_l6Ok_m (N : Nat) (d : Int) (d2 : List ((List UInt8) × (List UInt8))) (d3 : List ((List UInt8) × Int)) : Option (Bool) :=
  (iter (fun (go : (Int × Int × (List ((List UInt8) × (List UInt8))) × (List ((List UInt8) × Int))) → Option Bool) (g : Int × Int × (List ((List UInt8) × (List UInt8))) × (List ((List UInt8) × Int))) => 
      match g with
      | (i, d4, d5, d6) =>
      (bif (decide (i < (d5.length : Int))) then
        (Option.bind (idx d5 i) fun (e : (List UInt8) × (List UInt8)) =>
          (Option.bind (s_l1WordOk_m N e.1) fun (r : Bool) =>
            (bif (!r) then
              (some false)
              else
              (Option.bind (s_l1Text_m N e.2) fun (r2 : Bool) =>
                (bif (!r2) then
                  (some false)
                  else
                  (bif (decide ((0 : Int) < i)) then
                    (if fits (i - 1) then (Option.bind (idx d5 (i - 1)) fun (e2 : (List UInt8) × (List UInt8)) =>
                        (bif (Op.bytesLess e.1 e2.1 || decide (e.1 = e2.1)) then
                          (some false)
                          else
                          (if fits (i + 1) then (go ((i + 1), d4, d5, d6)) else none))) else none)
                    else
                    (if fits (i + 1) then (go ((i + 1), d4, d5, d6)) else none)))))))
        else
        (iter (fun (go2 : (Int × Int × (List ((List UInt8) × (List UInt8))) × (List ((List UInt8) × Int))) → Option Bool) (g : Int × Int × (List ((List UInt8) × (List UInt8))) × (List ((List UInt8) × Int))) => 
            match g with
            | (i2, d7, d8, d9) =>
            (bif (decide (i2 < (d9.length : Int))) then
              (Option.bind (idx d9 i2) fun (e3 : (List UInt8) × Int) =>
                (Option.bind (s_l1WordOk_m N e3.1) fun (r3 : Bool) =>
                  (bif (!r3) then
                    (some false)
                    else
                    (Option.bind (idx d9 i2) fun (e4 : (List UInt8) × Int) =>
                      (Option.bind (s_l1In_m N e4.2 0 999999999) fun (r4 : Bool) =>
                        (bif (!r4) then
                          (some false)
                          else
                          (bif (decide ((0 : Int) < i2)) then
                            (Option.bind (idx d9 i2) fun (e5 : (List UInt8) × Int) =>
                              (if fits (i2 - 1) then (Option.bind (idx d9 (i2 - 1)) fun (e6 : (List UInt8) × Int) =>
                                  (bif (Op.bytesLess e5.1 e6.1 || decide (e5.1 = e6.1)) then
                                    (some false)
                                    else
                                    (if fits (i2 + 1) then (go2 ((i2 + 1), d7, d8, d9)) else none))) else none))
                            else
                            (if fits (i2 + 1) then (go2 ((i2 + 1), d7, d8, d9)) else none))))))))
              else
              (Option.bind (s_l1In_m N d7 1 9999) fun (r5 : Bool) =>
                (bif r5 then
                  (Option.bind (s_l1In_m N (d8.length : Int) 0 3) fun (r6 : Bool) =>
                    (bif r6 then
                      (some (decide ((d9.length : Int) ≤ 3)))
                      else
                      (some false)))
                  else
                  (some false))))) N (0, d4, d5, d6)))) N (0, d, d2, d3))
def s_l6Ok_M (N : Nat) : Model := ⟨s_l6Ok_arg, s_l6Ok_ret, fun a => s_l6Ok_m N a.1 a.2.1 a.2.2⟩
set_option maxRecDepth 1000000 in
theorem s_l6Ok_ok (N : Nat) : ModelOk Try.prog 41 (s_l6Ok_M N) :=
  modelOk_of (E := mkEnv [(70, s_l1WordOk_M N), (71, s_l1Text_M N), (72, s_l1In_M N)] [] []) (mkEnv_ok (fnsOk_cons (s_l1WordOk_ok N) (fnsOk_cons (s_l1Text_ok N) (fnsOk_cons (s_l1In_ok N) fnsOk_nil))) _ _) Try.func41 (by kernel_rfl) rfl N s_l6Ok_h (s_l6Ok_M N) (by kernel_rfl) (by kernel_rfl) (fun a => by kernel_rfl)
/-! loop.example/fossick/spec.l22Keys -/
def s_l22Keys_arg : Sh := ⟨[.pv (.sl (.pair .str .bool))], []⟩
def s_l22Keys_ret : Sh := ⟨[.pv .bool], []⟩
def s_l22Keys_s1 : Sh := ⟨[.pv (.sl (.pair .str .bool)), .dead, .dead, .pv (.int .i64), .dead, .dead, .dead, .dead, .dead, .dead, .dead, .dead, .dead, .dead, .dead, .dead, .dead, .dead, .dead, .dead], []⟩
def s_l22Keys_h : Hint := (.seq .no (.seq (.seq .no (.block (.loop s_l22Keys_s1 .no))) .no))
def s_l22Keys_m (N : Nat) (keys : List ((List UInt8) × Bool)) : Option (Bool) :=
  (iter (fun (go : ((List ((List UInt8) × Bool)) × Int) → Option Bool) (g : (List ((List UInt8) × Bool)) × Int) => 
      match g with
      | (keys2, i) =>
      (bif (decide (i < (keys2.length : Int))) then
        (Option.bind (idx keys2 i) fun (e : (List UInt8) × Bool) =>
          (Option.bind (s_l1WordOk_m N e.1) fun (r : Bool) =>
            (bif (!r) then
              (some false)
              else
              (if fits (i + 1) then (go (keys2, (i + 1))) else none))))
        else
        (some (decide ((keys2.length : Int) ≤ 3))))) N (keys, 0))
def s_l22Keys_M (N : Nat) : Model := ⟨s_l22Keys_arg, s_l22Keys_ret, fun a => s_l22Keys_m N a⟩
set_option maxRecDepth 1000000 in
theorem s_l22Keys_ok (N : Nat) : ModelOk Try.prog 42 (s_l22Keys_M N) :=
  modelOk_of (E := mkEnv [(70, s_l1WordOk_M N)] [] []) (mkEnv_ok (fnsOk_cons (s_l1WordOk_ok N) fnsOk_nil) _ _) Try.func42 (by kernel_rfl) rfl N s_l22Keys_h (s_l22Keys_M N) (by kernel_rfl) (by kernel_rfl) (fun a => by kernel_rfl)
/-! loop.example/fossick/spec.l6Num -/
def s_l6Num_arg : Sh := ⟨[.agg [.pv (.int .i64), .pv (.sl (.pair .str .str)), .pv (.sl (.pair .str (.int .i64)))], .pv .str], []⟩
def s_l6Num_ret : Sh := ⟨[.pv (.int .i64)], []⟩
def s_l6Num_s1 : Sh := ⟨[.dead, .pv .str, .box 2 0, .dead, .dead, .pv (.int .i64), .dead, .dead, .dead, .dead, .dead, .dead, .dead, .dead, .dead, .dead, .dead, .dead, .dead, .dead, .dead, .dead, .dead, .dead, .dead, .dead, .dead], [(2, false, [.pv (.int .i64), .pv (.sl (.pair .str .str)), .pv (.sl (.pair .str (.int .i64)))])]⟩
def s_l6Num_h : Hint := (.seq .no (.seq (.seq .no (.block (.loop s_l6Num_s1 .no))) .no))
def s_l6Num_m (N : Nat) (d : Int) (d2 : List ((List UInt8) × (List UInt8))) (d3 : List ((List UInt8) × Int)) (name : List UInt8) : Option (Int) :=
  (iter (fun (go : ((List UInt8) × Int × Int × (List ((List UInt8) × (List UInt8))) × (List ((List UInt8) × Int))) → Option Int) (g : (List UInt8) × Int × Int × (List ((List UInt8) × (List UInt8))) × (List ((List UInt8) × Int))) => 
      match g with
      | (name2, i, d4, d5, d6) =>
      (bif (decide (i < (d6.length : Int))) then
        (Option.bind (idx d6 i) fun (e : (List UInt8) × Int) =>
          (bif (decide (e.1 = name2)) then
            (Option.bind (idx d6 i) fun (e2 : (List UInt8) × Int) =>
              (some e2.2))
            else
            (if fits (i + 1) then (go (name2, (i + 1), d4, d5, d6)) else none)))
        else
        (some (-1)))) N (name, 0, d, d2, d3))
def s_l6Num_M (N : Nat) : Model := ⟨s_l6Num_arg, s_l6Num_ret, fun a => s_l6Num_m N a.1 a.2.1 a.2.2.1 a.2.2.2⟩
set_option maxRecDepth 1000000 in
theorem s_l6Num_ok (N : Nat) : ModelOk Try.prog 88 (s_l6Num_M N) :=
  modelOk_of (E := mkEnv [] [] []) (mkEnv_ok fnsOk_nil _ _) Try.func88 (by kernel_rfl) rfl N s_l6Num_h (s_l6Num_M N) (by kernel_rfl) (by kernel_rfl) (fun a => by kernel_rfl)
/-! loop.example/fossick/spec.l22Cmp -/
def s_l22Cmp_arg : Sh := ⟨[.agg [.pv (.int .i64), .pv (.sl (.pair .str .str)), .pv (.sl (.pair .str (.int .i64)))], .agg [.pv (.int .i64), .pv (.sl (.pair .str .str)), .pv (.sl (.pair .str (.int .i64)))], .agg [.pv .str, .pv .bool]], []⟩
def s_l22Cmp_ret : Sh := ⟨[.pv (.int .i64)], []⟩
def s_l22Cmp_h : Hint := .no
def s_l22Cmp_m (N : Nat) (a : Int) (a2 : List ((List UInt8) × (List UInt8))) (a3 : List ((List UInt8) × Int)) (b : Int) (b2 : List ((List UInt8) × (List UInt8))) (b3 : List ((List UInt8) × Int)) (k : List UInt8) (k2 : Bool) : Option (Int) :=
  (Option.bind (s_l6Num_m N a a2 a3 k) fun (r : Int) =>
    (Option.bind (s_l6Num_m N b b2 b3 k) fun (r2 : Int) =>
      (bif (decide (r = r2)) then
        (some 0)
        else
        (bif (decide (r < 0)) then
          (some 1)
          else
          (bif (decide (r2 < 0)) then
            (some (-1))
            else
            (bif (decide (r < r2)) then
              (bif (!k2) then
                (some (-1))
                else
                (bif (decide (r2 < r)) then
                  (bif k2 then
                    (some (-1))
                    else
                    (some 1))
                  else
                  (some 1)))
              else
              (bif (decide (r2 < r)) then
                (bif k2 then
                  (some (-1))
                  else
                  (some 1))
                else
                (some 1))))))))
def s_l22Cmp_M (N : Nat) : Model := ⟨s_l22Cmp_arg, s_l22Cmp_ret, fun a => s_l22Cmp_m N a.1 a.2.1 a.2.2.1 a.2.2.2.1 a.2.2.2.2.1 a.2.2.2.2.2.1 a.2.2.2.2.2.2.1 a.2.2.2.2.2.2.2⟩
set_option maxRecDepth 1000000 in
theorem s_l22Cmp_ok (N : Nat) : ModelOk Try.prog 73 (s_l22Cmp_M N) :=
  modelOk_of (E := mkEnv [(88, s_l6Num_M N)] [] []) (mkEnv_ok (fnsOk_cons (s_l6Num_ok N) fnsOk_nil) _ _) Try.func73 (by kernel_rfl) rfl N s_l22Cmp_h (s_l22Cmp_M N) (by kernel_rfl) (by kernel_rfl) (fun a => by kernel_rfl)
/-! loop.example/fossick/spec.l22Less -/
def s_l22Less_arg : Sh := ⟨[.agg [.pv (.int .i64), .pv (.sl (.pair .str .str)), .pv (.sl (.pair .str (.int .i64)))], .agg [.pv (.int .i64), .pv (.sl (.pair .str .str)), .pv (.sl (.pair .str (.int .i64)))], .pv (.sl (.pair .str .bool))], []⟩
def s_l22Less_ret : Sh := ⟨[.pv .bool], []⟩
def s_l22Less_s1 : Sh := ⟨[.dead, .dead, .pv (.sl (.pair .str .bool)), .box 3 0, .box 4 0, .dead, .dead, .pv (.int .i64), .dead, .dead, .dead, .dead, .dead, .dead, .dead, .dead, .dead, .dead, .dead, .dead, .dead, .dead, .dead, .dead, .dead, .dead, .dead, .dead, .dead, .dead, .dead], [(3, false, [.pv (.int .i64), .pv (.sl (.pair .str .str)), .pv (.sl (.pair .str (.int .i64)))]), (4, false, [.pv (.int .i64), .pv (.sl (.pair .str .str)), .pv (.sl (.pair .str (.int .i64)))])]⟩
def s_l22Less_h : Hint := (.seq .no (.seq (.seq .no (.block (.loop s_l22Less_s1 .no))) .no))
def s_l22Less_m (N : Nat) (a : Int) (a2 : List ((List UInt8) × (List UInt8))) (a3 : List ((List UInt8) × Int)) (b : Int) (b2 : List ((List UInt8) × (List UInt8))) (b3 : List ((List UInt8) × Int)) (keys : List ((List UInt8) × Bool)) : Option (Bool) :=
  (iter (fun (go : ((List ((List UInt8) × Bool)) × Int × Int × (List ((List UInt8) × (List UInt8))) × (List ((List UInt8) × Int)) × Int × (List ((List UInt8) × (List UInt8))) × (List ((List UInt8) × Int))) → Option Bool) (g : (List ((List UInt8) × Bool)) × Int × Int × (List ((List UInt8) × (List UInt8))) × (List ((List UInt8) × Int)) × Int × (List ((List UInt8) × (List UInt8))) × (List ((List UInt8) × Int))) => 
      match g with
      | (keys2, i, a4, a5, a6, b4, b5, b6) =>
      (bif (decide (i < (keys2.length : Int))) then
        (Option.bind (idx keys2 i) fun (e : (List UInt8) × Bool) =>
          (Option.bind (s_l22Cmp_m N a4 a5 a6 b4 b5 b6 e.1 e.2) fun (r : Int) =>
            (bif (!decide (r = 0)) then
              (some (decide (r < 0)))
              else
              (if fits (i + 1) then (go (keys2, (i + 1), a4, a5, a6, b4, b5, b6)) else none))))
        else
        (some (decide (a4 < b4))))) N (keys, 0, a, a2, a3, b, b2, b3))
def s_l22Less_M (N : Nat) : Model := ⟨s_l22Less_arg, s_l22Less_ret, fun a => s_l22Less_m N a.1 a.2.1 a.2.2.1 a.2.2.2.1 a.2.2.2.2.1 a.2.2.2.2.2.1 a.2.2.2.2.2.2⟩
set_option maxRecDepth 1000000 in
theorem s_l22Less_ok (N : Nat) : ModelOk Try.prog 43 (s_l22Less_M N) :=
  modelOk_of (E := mkEnv [(73, s_l22Cmp_M N)] [] []) (mkEnv_ok (fnsOk_cons (s_l22Cmp_ok N) fnsOk_nil) _ _) Try.func43 (by kernel_rfl) rfl N s_l22Less_h (s_l22Less_M N) (by kernel_rfl) (by kernel_rfl) (fun a => by kernel_rfl)
/-! loop.example/fossick/spec.SortLess -/
def s_SortLess_arg : Sh := ⟨[.agg [.pv (.int .i64), .pv (.sl (.pair .str .str)), .pv (.sl (.pair .str (.int .i64)))], .agg [.pv (.int .i64), .pv (.sl (.pair .str .str)), .pv (.sl (.pair .str (.int .i64)))], .pv (.sl (.pair .str .bool))], []⟩
def s_SortLess_ret : Sh := ⟨[.pv .bool], []⟩
def s_SortLess_h : Hint := .no
def s_SortLess_m (N : Nat) (a : Int) (a2 : List ((List UInt8) × (List UInt8))) (a3 : List ((List UInt8) × Int)) (b : Int) (b2 : List ((List UInt8) × (List UInt8))) (b3 : List ((List UInt8) × Int)) (keys : List ((List UInt8) × Bool)) : Option (Bool) :=
  (Option.bind (s_l6Ok_m N a a2 a3) fun (r : Bool) =>
    (bif r then
      (Option.bind (s_l6Ok_m N b b2 b3) fun (r2 : Bool) =>
        (bif r2 then
          (Option.bind (s_l22Keys_m N keys) fun (r3 : Bool) =>
            (bif r3 then
              (Option.bind (s_l22Less_m N a a2 a3 b b2 b3 keys) fun (r4 : Bool) =>
                (some r4))
              else
              (some false)))
          else
          (some false)))
      else
      (some false)))
def s_SortLess_M (N : Nat) : Model := ⟨s_SortLess_arg, s_SortLess_ret, fun a => s_SortLess_m N a.1 a.2.1 a.2.2.1 a.2.2.2.1 a.2.2.2.2.1 a.2.2.2.2.2.1 a.2.2.2.2.2.2⟩
set_option maxRecDepth 1000000 in
theorem s_SortLess_ok (N : Nat) : ModelOk Try.prog 12 (s_SortLess_M N) :=
  modelOk_of (E := mkEnv [(41, s_l6Ok_M N), (42, s_l22Keys_M N), (43, s_l22Less_M N)] [] []) (mkEnv_ok (fnsOk_cons (s_l6Ok_ok N) (fnsOk_cons (s_l22Keys_ok N) (fnsOk_cons (s_l22Less_ok N) fnsOk_nil))) _ _) Try.func12 (by kernel_rfl) rfl N s_SortLess_h (s_SortLess_M N) (by kernel_rfl) (by kernel_rfl) (fun a => by kernel_rfl)
/-! loop.example/fossick/impl.within -/
def i_within_arg : Sh := ⟨[.pv (.int .i64), .pv (.int .i64), .pv (.int .i64)], []⟩
def i_within_ret : Sh := ⟨[.pv .bool], []⟩
def i_within_h : Hint := .no
def i_within_m (N : Nat) (n : Int) (low : Int) (high : Int) : Option (Bool) :=
  (bif (decide (low ≤ n)) then
    (some (decide (n ≤ high)))
    else
    (some false))
def i_within_M (N : Nat) : Model := ⟨i_within_arg, i_within_ret, fun a => i_within_m N a.1 a.2.1 a.2.2⟩
set_option maxRecDepth 1000000 in
theorem i_within_ok (N : Nat) : ModelOk Try.prog 55 (i_within_M N) :=
  modelOk_of (E := mkEnv [] [] []) (mkEnv_ok fnsOk_nil _ _) Try.func55 (by kernel_rfl) rfl N i_within_h (i_within_M N) (by kernel_rfl) (by kernel_rfl) (fun a => by kernel_rfl)
/-! loop.example/fossick/impl.wordByte -/
def i_wordByte_arg : Sh := ⟨[.pv (.int .u8)], []⟩
def i_wordByte_ret : Sh := ⟨[.pv .bool], []⟩
def i_wordByte_h : Hint := .no
def i_wordByte_m (N : Nat) (b : Int) : Option (Bool) :=
  (bif (decide ((97 : Int) ≤ b)) then
    (bif (decide (b ≤ 122)) then
      (some true)
      else
      (bif (decide ((48 : Int) ≤ b)) then
        (some (decide (b ≤ 57)))
        else
        (some false)))
    else
    (bif (decide ((48 : Int) ≤ b)) then
      (some (decide (b ≤ 57)))
      else
      (some false)))
def i_wordByte_M (N : Nat) : Model := ⟨i_wordByte_arg, i_wordByte_ret, fun a => i_wordByte_m N a⟩
set_option maxRecDepth 1000000 in
theorem i_wordByte_ok (N : Nat) : ModelOk Try.prog 83 (i_wordByte_M N) :=
  modelOk_of (E := mkEnv [] [] []) (mkEnv_ok fnsOk_nil _ _) Try.func83 (by kernel_rfl) rfl N i_wordByte_h (i_wordByte_M N) (by kernel_rfl) (by kernel_rfl) (fun a => by kernel_rfl)
/-! loop.example/fossick/impl.WordOk -/
def i_WordOk_arg : Sh := ⟨[.pv .str], []⟩
def i_WordOk_ret : Sh := ⟨[.pv .bool], []⟩
def i_WordOk_s1 : Sh := ⟨[.pv .str, .dead, .dead, .dead, .dead, .pv (.int .i64), .pv (.int .i64), .dead, .dead, .dead, .dead, .dead, .dead, .dead, .dead, .dead, .dead, .dead], []⟩
def i_WordOk_h : Hint := (.seq .no (.seq (.seq .no (.block (.loop i_WordOk_s1 .no))) .no))
def i_WordOk_m (N : Nat) (s : List UInt8) : Option (Bool) :=
  (iter (fun (go : ((List UInt8) × Int × Int) → Option Bool) (g : (List UInt8) × Int × Int) => 
      match g with
      | (s2, t5, t6) =>
      (bif (decide (t6 < t5)) then
        (Option.bind (idx s2 t6) fun (c : UInt8) =>
          (Option.bind (i_wordByte_m N (c.toNat : Int)) fun (r : Bool) =>
            (bif (!r) then
              (some false)
              else
              (if fits (t6 + 1) then (go (s2, t5, (t6 + 1))) else none))))
        else
        (Option.bind (i_within_m N (s2.length : Int) 1 12) fun (r2 : Bool) =>
          (some r2)))) N (s, (s.length : Int), 0))
def i_WordOk_M (N : Nat) : Model := ⟨i_WordOk_arg, i_WordOk_ret, fun a => i_WordOk_m N a⟩
set_option maxRecDepth 1000000 in
theorem i_WordOk_ok (N : Nat) : ModelOk Try.prog 56 (i_WordOk_M N) :=
  modelOk_of (E := mkEnv [(83, i_wordByte_M N), (55, i_within_M N)] [] []) (mkEnv_ok (fnsOk_cons (i_wordByte_ok N) (fnsOk_cons (i_within_ok N) fnsOk_nil)) _ _) Try.func56 (by kernel_rfl) rfl N i_WordOk_h (i_WordOk_M N) (by kernel_rfl) (by kernel_rfl) (fun a => by kernel_rfl)
/-! loop.example/fossick/impl.TextOk -/
def i_TextOk_arg : Sh := ⟨[.pv .str], []⟩
def i_TextOk_ret : Sh := ⟨[.pv .bool], []⟩
def i_TextOk_s1 : Sh := ⟨[.pv .str, .dead, .dead, .dead, .dead, .pv (.int .i64), .pv (.int .i64), .dead, .dead, .dead, .dead, .dead, .dead, .dead, .dead, .dead, .dead, .dead, .dead, .dead, .dead, .dead, .dead], []⟩
def i_TextOk_h : Hint := (.seq .no (.seq (.seq .no (.block (.loop i_TextOk_s1 .no))) .no))
def i_TextOk_m (N : Nat) (s : List UInt8) : Option (Bool) :=
  (iter (fun (go : ((List UInt8) × Int × Int) → Option Bool) (g : (List UInt8) × Int × Int) => 
      match g with
      | (s2, t5, t6) =>
      (bif (decide (t6 < t5)) then
        (Option.bind (idx s2 t6) fun (c : UInt8) =>
          (bif (decide ((c.toNat : Int) < 32)) then
            (some false)
            else
            (Option.bind (idx s2 t6) fun (c2 : UInt8) =>
              (bif (decide ((126 : Int) < (c2.toNat : Int))) then
                (some false)
                else
                (if fits (t6 + 1) then (go (s2, t5, (t6 + 1))) else none)))))
        else
        (some (decide ((s2.length : Int) ≤ 160))))) N (s, (s.length : Int), 0))
def i_TextOk_M (N : Nat) : Model := ⟨i_TextOk_arg, i_TextOk_ret, fun a => i_TextOk_m N a⟩
set_option maxRecDepth 1000000 in
theorem i_TextOk_ok (N : Nat) : ModelOk Try.prog 57 (i_TextOk_M N) :=
  modelOk_of (E := mkEnv [] [] []) (mkEnv_ok fnsOk_nil _ _) Try.func57 (by kernel_rfl) rfl N i_TextOk_h (i_TextOk_M N) (by kernel_rfl) (by kernel_rfl) (fun a => by kernel_rfl)
/-! loop.example/fossick/impl.DocOk -/
def i_DocOk_arg : Sh := ⟨[.agg [.pv (.int .i64), .pv (.sl (.pair .str .str)), .pv (.sl (.pair .str (.int .i64)))]], []⟩
def i_DocOk_ret : Sh := ⟨[.pv .bool], []⟩
def i_DocOk_s1 : Sh := ⟨[.dead, .box 1 0, .dead, .dead, .dead, .dead, .dead, .dead, .dead, .dead, .dead, .dead, .dead, .dead, .dead, .dead, .dead, .dead, .dead, .dead, .dead, .dead, .dead, .dead, .pv (.sl (.pair .str .str)), .pv (.int .i64), .pv (.int .i64), .dead, .dead, .dead, .dead, .dead, .dead, .dead, .dead, .dead, .dead, .dead, .dead, .dead, .dead, .dead, .dead, .dead, .dead, .dead, .dead, .dead, .dead, .dead, .dead, .dead, .dead, .dead, .dead, .dead, .dead, .dead, .dead, .dead, .dead, .dead, .dead, .dead, .dead, .dead, .dead, .dead, .dead, .dead, .dead, .dead, .dead, .dead, .dead, .dead, .dead, .dead, .dead, .dead, .dead, .dead, .dead, .dead, .dead, .dead, .dead, .dead, .dead, .dead, .dead, .dead, .dead], [(1, false, [.pv (.int .i64), .pv (.sl (.pair .str .str)), .pv (.sl (.pair .str (.int .i64)))])]⟩
def i_DocOk_s2 : Sh := ⟨[.dead, .box 1 0, .dead, .dead, .dead, .dead, .dead, .dead, .dead, .dead, .dead, .dead, .dead, .dead, .dead, .dead, .dead, .dead, .dead, .dead, .dead, .dead, .dead, .dead, .dead, .dead, .dead, .dead, .dead, .dead, .dead, .dead, .dead, .dead, .dead, .dead, .dead, .dead, .dead, .dead, .dead, .dead, .dead, .dead, .dead, .dead, .dead, .dead, .dead, .dead, .dead, .dead, .dead, .dead, .dead, .dead, .dead, .dead, .dead, .pv (.sl (.pair .str (.int .i64))), .pv (.int .i64), .pv (.int .i64), .dead, .dead, .dead, .dead, .dead, .dead, .dead, .dead, .dead, .dead, .dead, .dead, .dead, .dead, .dead, .dead, .dead, .dead, .dead, .dead, .dead, .dead, .dead, .dead, .dead, .dead, .dead, .dead, .dead, .dead, .dead], [(1, false, [.pv (.int .i64), .pv (.sl (.pair .str .str)), .pv (.sl (.pair .str (.int .i64)))])]⟩
def i_DocOk_h : Hint := (.seq .no (.seq .no (.seq (.seq .no (.block (.loop i_DocOk_s1 .no))) (.seq (.seq .no (.block (.loop i_DocOk_s2 .no))) .no))))
def i_DocOk_m (N : Nat) (d : Int) (d2 : List ((List UInt8) × (List UInt8))) (d3 : List ((List UInt8) × Int)) : Option (Bool) :=
  (Option.bind (i_within_m N d 1 9999) fun (r : Bool) =>
    (bif (!r) then
      (some false)
      else
      (bif (decide ((3 : Int) < (d2.length : Int))) then
        (some false)
        else
        (bif (decide ((3 : Int) < (d3.length : Int))) then
          (some false)
          else
          (iter (fun (go : ((List ((List UInt8) × (List UInt8))) × Int × Int × Int × (List ((List UInt8) × (List UInt8))) × (List ((List UInt8) × Int))) → Option Bool) (g : (List ((List UInt8) × (List UInt8))) × Int × Int × Int × (List ((List UInt8) × (List UInt8))) × (List ((List UInt8) × Int))) => 
              match g with
              | (t24, t25, t26, d4, d5, d6) =>
              (bif (decide (t26 < t25)) then
                (Option.bind (idx t24 t26) fun (e : (List UInt8) × (List UInt8)) =>
                  (Option.bind (i_WordOk_m N e.1) fun (r2 : Bool) =>
                    (bif (!r2) then
                      (some false)
                      else
                      (Option.bind (i_TextOk_m N e.2) fun (r3 : Bool) =>
                        (bif (!r3) then
                          (some false)
                          else
                          (bif (decide ((0 : Int) < t26)) then
                            (if fits (t26 - 1) then (Option.bind (idx d5 (t26 - 1)) fun (e2 : (List UInt8) × (List UInt8)) =>
                                (bif (!Op.bytesLess e2.1 e.1) then
                                  (some false)
                                  else
                                  (if fits (t26 + 1) then (go (t24, t25, (t26 + 1), d4, d5, d6)) else none))) else none)
                            else
                            (if fits (t26 + 1) then (go (t24, t25, (t26 + 1), d4, d5, d6)) else none)))))))
                else
                (iter (fun (go2 : ((List ((List UInt8) × Int)) × Int × Int × Int × (List ((List UInt8) × (List UInt8))) × (List ((List UInt8) × Int))) → Option Bool) (g : (List ((List UInt8) × Int)) × Int × Int × Int × (List ((List UInt8) × (List UInt8))) × (List ((List UInt8) × Int))) => 
                    match g with
                    | (t59, t60, t61, d7, d8, d9) =>
                    (bif (decide (t61 < t60)) then
                      (Option.bind (idx t59 t61) fun (e3 : (List UInt8) × Int) =>
                        (Option.bind (i_WordOk_m N e3.1) fun (r4 : Bool) =>
                          (bif (!r4) then
                            (some false)
                            else
                            (Option.bind (i_within_m N e3.2 0 999999999) fun (r5 : Bool) =>
                              (bif (!r5) then
                                (some false)
                                else
                                (bif (decide ((0 : Int) < t61)) then
                                  (if fits (t61 - 1) then (Option.bind (idx d9 (t61 - 1)) fun (e4 : (List UInt8) × Int) =>
                                      (bif (!Op.bytesLess e4.1 e3.1) then
                                        (some false)
                                        else
                                        (if fits (t61 + 1) then (go2 (t59, t60, (t61 + 1), d7, d8, d9)) else none))) else none)
                                  else
                                  (if fits (t61 + 1) then (go2 (t59, t60, (t61 + 1), d7, d8, d9)) else none)))))))
                      else
                      (some true))) N (d6, (d6.length : Int), 0, d4, d5, d6)))) N (d2, (d2.length : Int), 0, d, d2, d3))))))
def i_DocOk_M (N : Nat) : Model := ⟨i_DocOk_arg, i_DocOk_ret, fun a => i_DocOk_m N a.1 a.2.1 a.2.2⟩
set_option maxRecDepth 1000000 in
theorem i_DocOk_ok (N : Nat) : ModelOk Try.prog 19 (i_DocOk_M N) :=
  modelOk_of (E := mkEnv [(55, i_within_M N), (56, i_WordOk_M N), (57, i_TextOk_M N)] [] []) (mkEnv_ok (fnsOk_cons (i_within_ok N) (fnsOk_cons (i_WordOk_ok N) (fnsOk_cons (i_TextOk_ok N) fnsOk_nil))) _ _) Try.func19 (by kernel_rfl) rfl N i_DocOk_h (i_DocOk_M N) (by kernel_rfl) (by kernel_rfl) (fun a => by kernel_rfl)
/-! loop.example/fossick/impl.keysOk -/
def i_keysOk_arg : Sh := ⟨[.pv (.sl (.pair .str .bool))], []⟩
def i_keysOk_ret : Sh := ⟨[.pv .bool], []⟩
def i_keysOk_s1 : Sh := ⟨[.pv (.sl (.pair .str .bool)), .dead, .dead, .dead, .dead, .pv (.sl (.pair .str .bool)), .pv (.int .i64), .pv (.int .i64), .dead, .dead, .dead, .dead, .dead, .dead, .dead, .dead, .dead, .dead, .dead], []⟩
def i_keysOk_h : Hint := (.seq .no (.seq (.seq .no (.block (.loop i_keysOk_s1 .no))) .no))
def i_keysOk_m (N : Nat) (keys : List ((List UInt8) × Bool)) : Option (Bool) :=
  (iter (fun (go : ((List ((List UInt8) × Bool)) × (List ((List UInt8) × Bool)) × Int × Int) → Option Bool) (g : (List ((List UInt8) × Bool)) × (List ((List UInt8) × Bool)) × Int × Int) => 
      match g with
      | (keys2, t5, t6, t7) =>
      (bif (decide (t7 < t6)) then
        (Option.bind (idx t5 t7) fun (e : (List UInt8) × Bool) =>
          (Option.bind (i_WordOk_m N e.1) fun (r : Bool) =>
            (bif (!r) then
              (some false)
              else
              (if fits (t7 + 1) then (go (keys2, t5, t6, (t7 + 1))) else none))))
        else
        (some (decide ((keys2.length : Int) ≤ 3))))) N (keys, keys, (keys.length : Int), 0))
def i_keysOk_M (N : Nat) : Model := ⟨i_keysOk_arg, i_keysOk_ret, fun a => i_keysOk_m N a⟩
set_option maxRecDepth 1000000 in
theorem i_keysOk_ok (N : Nat) : ModelOk Try.prog 47 (i_keysOk_M N) :=
  modelOk_of (E := mkEnv [(56, i_WordOk_M N)] [] []) (mkEnv_ok (fnsOk_cons (i_WordOk_ok N) fnsOk_nil) _ _) Try.func47 (by kernel_rfl) rfl N i_keysOk_h (i_keysOk_M N) (by kernel_rfl) (by kernel_rfl) (fun a => by kernel_rfl)
/-! loop.example/fossick/impl.DocNum -/
def i_DocNum_arg : Sh := ⟨[.agg [.pv (.int .i64), .pv (.sl (.pair .str .str)), .pv (.sl (.pair .str (.int .i64)))], .pv .str], []⟩
def i_DocNum_ret : Sh := ⟨[.pv (.int .i64)], []⟩
def i_DocNum_s1 : Sh := ⟨[.dead, .pv .str, .dead, .dead, .dead, .dead, .dead, .dead, .dead, .dead, .pv (.sl (.pair .str (.int .i64))), .pv (.int .i64), .pv (.int .i64), .dead, .dead, .dead, .dead, .dead, .dead, .dead, .dead, .dead, .dead], []⟩
def i_DocNum_h : Hint := (.seq .no (.seq (.seq .no (.cond (.seq .no (.block (.loop i_DocNum_s1 .no))) .no)) .no))
def i_DocNum_m (N : Nat) (d : Int) (d2 : List ((List UInt8) × (List UInt8))) (d3 : List ((List UInt8) × Int)) (name : List UInt8) : Option (Int) :=
  (Option.bind (i_DocOk_m N d d2 d3) fun (r : Bool) =>
    (bif r then
      (iter (fun (go : ((List UInt8) × (List ((List UInt8) × Int)) × Int × Int) → Option Int) (g : (List UInt8) × (List ((List UInt8) × Int)) × Int × Int) => 
          match g with
          | (name2, t10, t11, t12) =>
          (bif (decide (t12 < t11)) then
            (Option.bind (idx t10 t12) fun (e : (List UInt8) × Int) =>
              (bif (decide (e.1 = name2)) then
                (some e.2)
                else
                (if fits (t12 + 1) then (go (name2, t10, t11, (t12 + 1))) else none)))
            else
            (some (-1)))) N (name, d3, (d3.length : Int), 0))
      else
      (some (-1))))
def i_DocNum_M (N : Nat) : Model := ⟨i_DocNum_arg, i_DocNum_ret, fun a => i_DocNum_m N a.1 a.2.1 a.2.2.1 a.2.2.2⟩
set_option maxRecDepth 1000000 in
theorem i_DocNum_ok (N : Nat) : ModelOk Try.prog 76 (i_DocNum_M N) :=
  modelOk_of (E := mkEnv [(19, i_DocOk_M N)] [] []) (mkEnv_ok (fnsOk_cons (i_DocOk_ok N) fnsOk_nil) _ _) Try.func76 (by kernel_rfl) rfl N i_DocNum_h (i_DocNum_M N) (by kernel_rfl) (by kernel_rfl) (fun a => by kernel_rfl)
/-! loop.example/fossick/impl.docOrder -/
def i_docOrder_arg : Sh := ⟨[.agg [.pv (.int .i64), .pv (.sl (.pair .str .str)), .pv (.sl (.pair .str (.int .i64)))], .agg [.pv (.int .i64), .pv (.sl (.pair .str .str)), .pv (.sl (.pair .str (.int .i64)))], .pv (.sl (.pair .str .bool))], []⟩
def i_docOrder_ret : Sh := ⟨[.pv (.int .i64)], []⟩
def i_docOrder_s1 : Sh := ⟨[.dead, .dead, .dead, .box 3 0, .box 4 0, .dead, .dead, .dead, .dead, .dead, .dead, .pv (.sl (.pair .str .bool)), .pv (.int .i64), .pv (.int .i64), .dead, .dead, .dead, .dead, .dead, .dead, .dead, .dead, .dead, .dead, .dead, .dead, .dead, .dead, .dead, .dead, .dead, .dead, .dead, .dead, .dead, .dead, .dead, .dead, .dead, .dead, .dead, .dead, .dead, .dead, .dead, .dead, .dead, .dead, .dead], [(3, false, [.pv (.int .i64), .pv (.sl (.pair .str .str)), .pv (.sl (.pair .str (.int .i64)))]), (4, false, [.pv (.int .i64), .pv (.sl (.pair .str .str)), .pv (.sl (.pair .str (.int .i64)))])]⟩
def i_docOrder_h : Hint := (.seq .no (.seq (.seq .no (.block (.loop i_docOrder_s1 .no))) .no))
def i_docOrder_m (N : Nat) (a : Int) (a2 : List ((List UInt8) × (List UInt8))) (a3 : List ((List UInt8) × Int)) (b : Int) (b2 : List ((List UInt8) × (List UInt8))) (b3 : List ((List UInt8) × Int)) (keys : List ((List UInt8) × Bool)) : Option (Int) :=
  (iter (fun (go : ((List ((List UInt8) × Bool)) × Int × Int × Int × (List ((List UInt8) × (List UInt8))) × (List ((List UInt8) × Int)) × Int × (List ((List UInt8) × (List UInt8))) × (List ((List UInt8) × Int))) → Option Int) (g : (List ((List UInt8) × Bool)) × Int × Int × Int × (List ((List UInt8) × (List UInt8))) × (List ((List UInt8) × Int)) × Int × (List ((List UInt8) × (List UInt8))) × (List ((List UInt8) × Int))) => 
      match g with
      | (t11, t12, t13, a4, a5, a6, b4, b5, b6) =>
      (bif (decide (t13 < t12)) then
        (Option.bind (idx t11 t13) fun (e : (List UInt8) × Bool) =>
          (Option.bind (i_DocNum_m N a4 a5 a6 e.1) fun (r : Int) =>
            (Option.bind (i_DocNum_m N b4 b5 b6 e.1) fun (r2 : Int) =>
              (bif (decide (r = r2)) then
                (if fits (t13 + 1) then (go (t11, t12, (t13 + 1), a4, a5, a6, b4, b5, b6)) else none)
                else
                (bif (decide (r = (-1))) then
                  (some 1)
                  else
                  (bif (decide (r2 = (-1))) then
                    (some (-1))
                    else
                    (bif (!((decide (r < r2)) == e.2)) then
                      (some (-1))
                      else
                      (some 1))))))))
        else
        (if fits (a4 - b4) then (some (a4 - b4)) else none))) N (keys, (keys.length : Int), 0, a, a2, a3, b, b2, b3))
def i_docOrder_M (N : Nat) : Model := ⟨i_docOrder_arg, i_docOrder_ret, fun a => i_docOrder_m N a.1 a.2.1 a.2.2.1 a.2.2.2.1 a.2.2.2.2.1 a.2.2.2.2.2.1 a.2.2.2.2.2.2⟩
set_option maxRecDepth 1000000 in
theorem i_docOrder_ok (N : Nat) : ModelOk Try.prog 48 (i_docOrder_M N) :=
  modelOk_of (E := mkEnv [(76, i_DocNum_M N)] [] []) (mkEnv_ok (fnsOk_cons (i_DocNum_ok N) fnsOk_nil) _ _) Try.func48 (by kernel_rfl) rfl N i_docOrder_h (i_docOrder_M N) (by kernel_rfl) (by kernel_rfl) (fun a => by kernel_rfl)
/-! loop.example/fossick/impl.SortLess -/
def i_SortLess_arg : Sh := ⟨[.agg [.pv (.int .i64), .pv (.sl (.pair .str .str)), .pv (.sl (.pair .str (.int .i64)))], .agg [.pv (.int .i64), .pv (.sl (.pair .str .str)), .pv (.sl (.pair .str (.int .i64)))], .pv (.sl (.pair .str .bool))], []⟩
def i_SortLess_ret : Sh := ⟨[.pv .bool], []⟩
def i_SortLess_h : Hint := .no
def i_SortLess_m (N : Nat) (a : Int) (a2 : List ((List UInt8) × (List UInt8))) (a3 : List ((List UInt8) × Int)) (b : Int) (b2 : List ((List UInt8) × (List UInt8))) (b3 : List ((List UInt8) × Int)) (keys : List ((List UInt8) × Bool)) : Option (Bool) :=
  (Option.bind (i_DocOk_m N a a2 a3) fun (r : Bool) =>
    (bif r then
      (Option.bind (i_DocOk_m N b b2 b3) fun (r2 : Bool) =>
        (bif r2 then
          (Option.bind (i_keysOk_m N keys) fun (r3 : Bool) =>
            (bif r3 then
              (Option.bind (i_docOrder_m N a a2 a3 b b2 b3 keys) fun (r4 : Int) =>
                (some (decide (r4 < 0))))
              else
              (some false)))
          else
          (some false)))
      else
      (some false)))
def i_SortLess_M (N : Nat) : Model := ⟨i_SortLess_arg, i_SortLess_ret, fun a => i_SortLess_m N a.1 a.2.1 a.2.2.1 a.2.2.2.1 a.2.2.2.2.1 a.2.2.2.2.2.1 a.2.2.2.2.2.2⟩
set_option maxRecDepth 1000000 in
theorem i_SortLess_ok (N : Nat) : ModelOk Try.prog 15 (i_SortLess_M N) :=
  modelOk_of (E := mkEnv [(19, i_DocOk_M N), (47, i_keysOk_M N), (48, i_docOrder_M N)] [] []) (mkEnv_ok (fnsOk_cons (i_DocOk_ok N) (fnsOk_cons (i_keysOk_ok N) (fnsOk_cons (i_docOrder_ok N) fnsOk_nil))) _ _) Try.func15 (by kernel_rfl) rfl N i_SortLess_h (i_SortLess_M N) (by kernel_rfl) (by kernel_rfl) (fun a => by kernel_rfl)
/-! loop.example/fossick/laws.eqField -/
def l_eqField_arg : Sh := ⟨[.agg [.pv .str, .pv .str], .agg [.pv .str, .pv .str]], []⟩
def l_eqField_ret : Sh := ⟨[.pv .bool], []⟩
def l_eqField_h : Hint := .no
def l_eqField_m (N : Nat) (a : List UInt8) (a2 : List UInt8) (b : List UInt8) (b2 : List UInt8) : Option (Bool) :=
  (bif (!decide (a = b)) then
    (some false)
    else
    (bif (!decide (a2 = b2)) then
      (some false)
      else
      (some true)))
def l_eqField_M (N : Nat) : Model := ⟨l_eqField_arg, l_eqField_ret, fun a => l_eqField_m N a.1 a.2.1 a.2.2.1 a.2.2.2⟩
set_option maxRecDepth 1000000 in
theorem l_eqField_ok (N : Nat) : ModelOk Try.prog 77 (l_eqField_M N) :=
  modelOk_of (E := mkEnv [] [] []) (mkEnv_ok fnsOk_nil _ _) Try.func77 (by kernel_rfl) rfl N l_eqField_h (l_eqField_M N) (by kernel_rfl) (by kernel_rfl) (fun a => by kernel_rfl)
/-! loop.example/fossick/laws.eqFieldS -/
def l_eqFieldS_arg : Sh := ⟨[.pv (.sl (.pair .str .str)), .pv (.sl (.pair .str .str))], []⟩
def l_eqFieldS_ret : Sh := ⟨[.pv .bool], []⟩
def l_eqFieldS_s1 : Sh := ⟨[.pv (.sl (.pair .str .str)), .pv (.sl (.pair .str .str)), .dead, .dead, .dead, .pv (.int .i64), .dead, .dead, .dead, .dead, .dead, .dead, .dead, .dead, .dead, .dead, .dead, .dead, .dead, .dead, .dead, .dead, .dead, .dead, .dead, .dead, .dead], []⟩
def l_eqFieldS_h : Hint := (.seq .no (.seq .no (.seq (.seq .no (.block (.loop l_eqFieldS_s1 .no))) .no)))
def l_eqFieldS_m (N : Nat) (a : List ((List UInt8) × (List UInt8))) (b : List ((List UInt8) × (List UInt8))) : Option (Bool) :=
  (bif (!decide ((a.length : Int) = (b.length : Int))) then
    (some false)
    else
    (iter (fun (go : ((List ((List UInt8) × (List UInt8))) × (List ((List UInt8) × (List UInt8))) × Int) → Option Bool) (g : (List ((List UInt8) × (List UInt8))) × (List ((List UInt8) × (List UInt8))) × Int) => 
        match g with
        | (a2, b2, i) =>
        (bif (decide (i < (a2.length : Int))) then
          (Option.bind (idx a2 i) fun (e : (List UInt8) × (List UInt8)) =>
            (Option.bind (idx b2 i) fun (e2 : (List UInt8) × (List UInt8)) =>
              (Option.bind (l_eqField_m N e.1 e.2 e2.1 e2.2) fun (r : Bool) =>
                (bif (!r) then
                  (some false)
                  else
                  (if fits (i + 1) then (go (a2, b2, (i + 1))) else none)))))
          else
          (some true))) N (a, b, 0)))
def l_eqFieldS_M (N : Nat) : Model := ⟨l_eqFieldS_arg, l_eqFieldS_ret, fun a => l_eqFieldS_m N a.1 a.2⟩
set_option maxRecDepth 1000000 in
theorem l_eqFieldS_ok (N : Nat) : ModelOk Try.prog 49 (l_eqFieldS_M N) :=
  modelOk_of (E := mkEnv [(77, l_eqField_M N)] [] []) (mkEnv_ok (fnsOk_cons (l_eqField_ok N) fnsOk_nil) _ _) Try.func49 (by kernel_rfl) rfl N l_eqFieldS_h (l_eqFieldS_M N) (by kernel_rfl) (by kernel_rfl) (fun a => by kernel_rfl)
/-! loop.example/fossick/laws.eqAttr -/
def l_eqAttr_arg : Sh := ⟨[.agg [.pv .str, .pv (.int .i64)], .agg [.pv .str, .pv (.int .i64)]], []⟩
def l_eqAttr_ret : Sh := ⟨[.pv .bool], []⟩
def l_eqAttr_h : Hint := .no
def l_eqAttr_m (N : Nat) (a : List UInt8) (a2 : Int) (b : List UInt8) (b2 : Int) : Option (Bool) :=
  (bif (!decide (a = b)) then
    (some false)
    else
    (bif (!decide (a2 = b2)) then
      (some false)
      else
      (some true)))
def l_eqAttr_M (N : Nat) : Model := ⟨l_eqAttr_arg, l_eqAttr_ret, fun a => l_eqAttr_m N a.1 a.2.1 a.2.2.1 a.2.2.2⟩
set_option maxRecDepth 1000000 in
theorem l_eqAttr_ok (N : Nat) : ModelOk Try.prog 78 (l_eqAttr_M N) :=
  modelOk_of (E := mkEnv [] [] []) (mkEnv_ok fnsOk_nil _ _) Try.func78 (by kernel_rfl) rfl N l_eqAttr_h (l_eqAttr_M N) (by kernel_rfl) (by kernel_rfl) (fun a => by kernel_rfl)
/-! loop.example/fossick/laws.eqAttrS -/
def l_eqAttrS_arg : Sh := ⟨[.pv (.sl (.pair .str (.int .i64))), .pv (.sl (.pair .str (.int .i64)))], []⟩
def l_eqAttrS_ret : Sh := ⟨[.pv .bool], []⟩
def l_eqAttrS_s1 : Sh := ⟨[.pv (.sl (.pair .str (.int .i64))), .pv (.sl (.pair .str (.int .i64))), .dead, .dead, .dead, .pv (.int .i64), .dead, .dead, .dead, .dead, .dead, .dead, .dead, .dead, .dead, .dead, .dead, .dead, .dead, .dead, .dead, .dead, .dead, .dead, .dead, .dead, .dead], []⟩
def l_eqAttrS_h : Hint := (.seq .no (.seq .no (.seq (.seq .no (.block (.loop l_eqAttrS_s1 .no))) .no)))
def l_eqAttrS_m (N : Nat) (a : List ((List UInt8) × Int)) (b : List ((List UInt8) × Int)) : Option (Bool) :=
  (bif (!decide ((a.length : Int) = (b.length : Int))) then
    (some false)
    else
    (iter (fun (go : ((List ((List UInt8) × Int)) × (List ((List UInt8) × Int)) × Int) → Option Bool) (g : (List ((List UInt8) × Int)) × (List ((List UInt8) × Int)) × Int) => 
        match g with
        | (a2, b2, i) =>
        (bif (decide (i < (a2.length : Int))) then
          (Option.bind (idx a2 i) fun (e : (List UInt8) × Int) =>
            (Option.bind (idx b2 i) fun (e2 : (List UInt8) × Int) =>
              (Option.bind (l_eqAttr_m N e.1 e.2 e2.1 e2.2) fun (r : Bool) =>
                (bif (!r) then
                  (some false)
                  else
                  (if fits (i + 1) then (go (a2, b2, (i + 1))) else none)))))
          else
          (some true))) N (a, b, 0)))
def l_eqAttrS_M (N : Nat) : Model := ⟨l_eqAttrS_arg, l_eqAttrS_ret, fun a => l_eqAttrS_m N a.1 a.2⟩
set_option maxRecDepth 1000000 in
theorem l_eqAttrS_ok (N : Nat) : ModelOk Try.prog 50 (l_eqAttrS_M N) :=
  modelOk_of (E := mkEnv [(78, l_eqAttr_M N)] [] []) (mkEnv_ok (fnsOk_cons (l_eqAttr_ok N) fnsOk_nil) _ _) Try.func50 (by kernel_rfl) rfl N l_eqAttrS_h (l_eqAttrS_M N) (by kernel_rfl) (by kernel_rfl) (fun a => by kernel_rfl)
/-! loop.example/fossick/laws.eqDoc -/
def l_eqDoc_arg : Sh := ⟨[.agg [.pv (.int .i64), .pv (.sl (.pair .str .str)), .pv (.sl (.pair .str (.int .i64)))], .agg [.pv (.int .i64), .pv (.sl (.pair .str .str)), .pv (.sl (.pair .str (.int .i64)))]], []⟩
def l_eqDoc_ret : Sh := ⟨[.pv .bool], []⟩
def l_eqDoc_h : Hint := .no
def l_eqDoc_m (N : Nat) (a : Int) (a2 : List ((List UInt8) × (List UInt8))) (a3 : List ((List UInt8) × Int)) (b : Int) (b2 : List ((List UInt8) × (List UInt8))) (b3 : List ((List UInt8) × Int)) : Option (Bool) :=
  (bif (!decide (a = b)) then
    (some false)
    else
    (Option.bind (l_eqFieldS_m N a2 b2) fun (r : Bool) =>
      (bif (!r) then
        (some false)
        else
        (Option.bind (l_eqAttrS_m N a3 b3) fun (r2 : Bool) =>
          (bif (!r2) then
            (some false)
            else
            (some true))))))
def l_eqDoc_M (N : Nat) : Model := ⟨l_eqDoc_arg, l_eqDoc_ret, fun a => l_eqDoc_m N a.1 a.2.1 a.2.2.1 a.2.2.2.1 a.2.2.2.2.1 a.2.2.2.2.2⟩
set_option maxRecDepth 1000000 in
theorem l_eqDoc_ok (N : Nat) : ModelOk Try.prog 16 (l_eqDoc_M N) :=
  modelOk_of (E := mkEnv [(49, l_eqFieldS_M N), (50, l_eqAttrS_M N)] [] []) (mkEnv_ok (fnsOk_cons (l_eqFieldS_ok N) (fnsOk_cons (l_eqAttrS_ok N) fnsOk_nil)) _ _) Try.func16 (by kernel_rfl) rfl N l_eqDoc_h (l_eqDoc_M N) (by kernel_rfl) (by kernel_rfl) (fun a => by kernel_rfl)
/-! loop.example/fossick/laws.eqKey -/
def l_eqKey_arg : Sh := ⟨[.agg [.pv .str, .pv .bool], .agg [.pv .str, .pv .bool]], []⟩
def l_eqKey_ret : Sh := ⟨[.pv .bool], []⟩
def l_eqKey_h : Hint := .no
def l_eqKey_m (N : Nat) (a : List UInt8) (a2 : Bool) (b : List UInt8) (b2 : Bool) : Option (Bool) :=
  (bif (!decide (a = b)) then
    (some false)
    else
    (bif (!(a2 == b2)) then
      (some false)
      else
      (some true)))
def l_eqKey_M (N : Nat) : Model := ⟨l_eqKey_arg, l_eqKey_ret, fun a => l_eqKey_m N a.1 a.2.1 a.2.2.1 a.2.2.2⟩
set_option maxRecDepth 1000000 in
theorem l_eqKey_ok (N : Nat) : ModelOk Try.prog 51 (l_eqKey_M N) :=
  modelOk_of (E := mkEnv [] [] []) (mkEnv_ok fnsOk_nil _ _) Try.func51 (by kernel_rfl) rfl N l_eqKey_h (l_eqKey_M N) (by kernel_rfl) (by kernel_rfl) (fun a => by kernel_rfl)
/-! loop.example/fossick/laws.eqKeyS -/
def l_eqKeyS_arg : Sh := ⟨[.pv (.sl (.pair .str .bool)), .pv (.sl (.pair .str .bool))], []⟩
def l_eqKeyS_ret : Sh := ⟨[.pv .bool], []⟩
def l_eqKeyS_s1 : Sh := ⟨[.pv (.sl (.pair .str .bool)), .pv (.sl (.pair .str .bool)), .dead, .dead, .dead, .pv (.int .i64), .dead, .dead, .dead, .dead, .dead, .dead, .dead, .dead, .dead, .dead, .dead, .dead, .dead, .dead, .dead, .dead, .dead, .dead, .dead, .dead, .dead], []⟩
def l_eqKeyS_h : Hint := (.seq .no (.seq .no (.seq (.seq .no (.block (.loop l_eqKeyS_s1 .no))) .no)))
def l_eqKeyS_m (N : Nat) (a : List ((List UInt8) × Bool)) (b : List ((List UInt8) × Bool)) : Option (Bool) :=
  (bif (!decide ((a.length : Int) = (b.length : Int))) then
    (some false)
    else
    (iter (fun (go : ((List ((List UInt8) × Bool)) × (List ((List UInt8) × Bool)) × Int) → Option Bool) (g : (List ((List UInt8) × Bool)) × (List ((List UInt8) × Bool)) × Int) => 
        match g with
        | (a2, b2, i) =>
        (bif (decide (i < (a2.length : Int))) then
          (Option.bind (idx a2 i) fun (e : (List UInt8) × Bool) =>
            (Option.bind (idx b2 i) fun (e2 : (List UInt8) × Bool) =>
              (Option.bind (l_eqKey_m N e.1 e.2 e2.1 e2.2) fun (r : Bool) =>
                (bif (!r) then
                  (some false)
                  else
                  (if fits (i + 1) then (go (a2, b2, (i + 1))) else none)))))
          else
          (some true))) N (a, b, 0)))
def l_eqKeyS_M (N : Nat) : Model := ⟨l_eqKeyS_arg, l_eqKeyS_ret, fun a => l_eqKeyS_m N a.1 a.2⟩
set_option maxRecDepth 1000000 in
theorem l_eqKeyS_ok (N : Nat) : ModelOk Try.prog 17 (l_eqKeyS_M N) :=
  modelOk_of (E := mkEnv [(51, l_eqKey_M N)] [] []) (mkEnv_ok (fnsOk_cons (l_eqKey_ok N) fnsOk_nil) _ _) Try.func17 (by kernel_rfl) rfl N l_eqKeyS_h (l_eqKeyS_M N) (by kernel_rfl) (by kernel_rfl) (fun a => by kernel_rfl)
/-! loop.example/fossick/laws.FnExactSortLess -/
def l_FnExactSortLess_arg : Sh := ⟨[.agg [.pv (.int .i64), .pv (.sl (.pair .str .str)), .pv (.sl (.pair .str (.int .i64)))], .agg [.pv (.int .i64), .pv (.sl (.pair .str .str)), .pv (.sl (.pair .str (.int .i64)))], .pv (.sl (.pair .str .bool))], []⟩
def l_FnExactSortLess_ret : Sh := ⟨[.pv .bool], []⟩
def l_FnExactSortLess_h : Hint := .no
def l_FnExactSortLess_m (N : Nat) (aA : Int) (aA2 : List ((List UInt8) × (List UInt8))) (aA3 : List ((List UInt8) × Int)) (aB : Int) (aB2 : List ((List UInt8) × (List UInt8))) (aB3 : List ((List UInt8) × Int)) (aKeys : List ((List UInt8) × Bool)) : Option (Bool) :=
  (Option.bind (l_szDoc_m N aA aA2 aA3 1048576) fun (r : Int) =>
    (bif (decide (r < 0)) then
      (some true)
      else
      (Option.bind (l_szDoc_m N aB aB2 aB3 r) fun (r2 : Int) =>
        (bif (decide (r2 < 0)) then
          (some true)
          else
          (Option.bind (l_szKeyS_m N aKeys r2) fun (r3 : Int) =>
            (bif (decide (r3 < 0)) then
              (some true)
              else
              (Option.bind (l_toDoc_m N aA aA2 aA3) fun (r4 : Int × (List ((List UInt8) × (List UInt8))) × (List ((List UInt8) × Int))) =>
                (Option.bind (l_toDoc_m N aB aB2 aB3) fun (r5 : Int × (List ((List UInt8) × (List UInt8))) × (List ((List UInt8) × Int))) =>
                  (Option.bind (l_toKeyS_m N aKeys) fun (r6 : (List ((List UInt8) × Bool))) =>
                    (Option.bind (s_SortLess_m N r4.1 r4.2.1 r4.2.2 r5.1 r5.2.1 r5.2.2 r6) fun (r7 : Bool) =>
                      (Option.bind (l_toDoc_m N aA aA2 aA3) fun (r8 : Int × (List ((List UInt8) × (List UInt8))) × (List ((List UInt8) × Int))) =>
                        (Option.bind (l_toDoc_m N aB aB2 aB3) fun (r9 : Int × (List ((List UInt8) × (List UInt8))) × (List ((List UInt8) × Int))) =>
                          (Option.bind (l_toKeyS_m N aKeys) fun (r10 : (List ((List UInt8) × Bool))) =>
                            (Option.bind (i_SortLess_m N r8.1 r8.2.1 r8.2.2 r9.1 r9.2.1 r9.2.2 r10) fun (r11 : Bool) =>
                              (bif (!(r11 == r7)) then
                                (some false)
                                else
                                (Option.bind (l_toDoc_m N aA aA2 aA3) fun (r12 : Int × (List ((List UInt8) × (List UInt8))) × (List ((List UInt8) × Int))) =>
                                  (Option.bind (l_eqDoc_m N r8.1 r8.2.1 r8.2.2 r12.1 r12.2.1 r12.2.2) fun (r13 : Bool) =>
                                    (bif (!r13) then
                                      (some false)
                                      else
                                      (Option.bind (l_toDoc_m N aB aB2 aB3) fun (r14 : Int × (List ((List UInt8) × (List UInt8))) × (List ((List UInt8) × Int))) =>
                                        (Option.bind (l_eqDoc_m N r9.1 r9.2.1 r9.2.2 r14.1 r14.2.1 r14.2.2) fun (r15 : Bool) =>
                                          (bif (!r15) then
                                            (some false)
                                            else
                                            (Option.bind (l_toKeyS_m N aKeys) fun (r16 : (List ((List UInt8) × Bool))) =>
                                              (Option.bind (l_eqKeyS_m N r10 r16) fun (r17 : Bool) =>
                                                (bif (!r17) then
                                                  (some false)
                                                  else
                                                  (some true)))))))))))))))))))))))))
def l_FnExactSortLess_M (N : Nat) : Model := ⟨l_FnExactSortLess_arg, l_FnExactSortLess_ret, fun a => l_FnExactSortLess_m N a.1 a.2.1 a.2.2.1 a.2.2.2.1 a.2.2.2.2.1 a.2.2.2.2.2.1 a.2.2.2.2.2.2⟩
set_option maxRecDepth 1000000 in
theorem l_FnExactSortLess_ok (N : Nat) : ModelOk Try.prog 3 (l_FnExactSortLess_M N) :=
  modelOk_of (E := mkEnv [(10, l_szDoc_M N), (11, l_szKeyS_M N), (13, l_toDoc_M N), (14, l_toKeyS_M N), (12, s_SortLess_M N), (15, i_SortLess_M N), (16, l_eqDoc_M N), (17, l_eqKeyS_M N)] [] [] [29, 31, 33, 36, 38, 40, 44, 50, 51, 55, 56, 60, 61]) (mkEnv_ok (fnsOk_cons (l_szDoc_ok N) (fnsOk_cons (l_szKeyS_ok N) (fnsOk_cons (l_toDoc_ok N) (fnsOk_cons (l_toKeyS_ok N) (fnsOk_cons (s_SortLess_ok N) (fnsOk_cons (i_SortLess_ok N) (fnsOk_cons (l_eqDoc_ok N) (fnsOk_cons (l_eqKeyS_ok N) fnsOk_nil)))))))) _ _ _) Try.func3 (by kernel_rfl) rfl N l_FnExactSortLess_h (l_FnExactSortLess_M N) (by kernel_rfl) (by kernel_rfl) (fun a => by kernel_rfl)
end Go.Proofs.Ytjggioppicabbaa
