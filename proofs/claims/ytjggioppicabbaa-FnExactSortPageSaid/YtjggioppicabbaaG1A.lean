import Derived.Test.YtjggioppicabbaaKTab
set_option linter.unusedVariables false
set_option linter.unusedSimpArgs false
namespace Go.Proofs.Ytjggioppicabbaa
open Go.RowKit
/-! loop.example/fossick/laws.szField -/
def l_szField_arg : Sh := ⟨[.agg [.pv .str, .pv .str], .pv (.int .i64)], []⟩
def l_szField_ret : Sh := ⟨[.pv (.int .i64)], []⟩
def l_szField_h : Hint := .no
def l_szField_m (N : Nat) (a : List UInt8) (a2 : List UInt8) (left : Int) : Option (Int) :=
  (if fits (left - (a.length : Int)) then (bif (decide ((left - (a.length : Int)) < 0)) then
      (some (-1))
      else
      (if fits ((left - (a.length : Int)) - (a2.length : Int)) then (bif (decide (((left - (a.length : Int)) - (a2.length : Int)) < 0)) then
          (some (-1))
          else
          (some ((left - (a.length : Int)) - (a2.length : Int)))) else none)) else none)
def l_szField_M (N : Nat) : Model := ⟨l_szField_arg, l_szField_ret, fun a => l_szField_m N a.1 a.2.1 a.2.2⟩
set_option maxRecDepth 1000000 in
theorem l_szField_ok (N : Nat) : ModelOk Try.prog 68 (l_szField_M N) :=
  modelOk_of (E := mkEnv [] [] []) (mkEnv_ok fnsOk_nil _ _) Try.func68 (by kernel_rfl) rfl N l_szField_h (l_szField_M N) (by kernel_rfl) (by kernel_rfl) (fun a => by kernel_rfl)
/-! loop.example/fossick/laws.szFieldS -/
def l_szFieldS_arg : Sh := ⟨[.pv (.sl (.pair .str .str)), .pv (.int .i64)], []⟩
def l_szFieldS_ret : Sh := ⟨[.pv (.int .i64)], []⟩
def l_szFieldS_s1 : Sh := ⟨[.pv (.sl (.pair .str .str)), .pv (.int .i64), .dead, .dead, .dead, .pv (.int .i64), .dead, .dead, .dead, .dead, .dead, .dead, .dead, .dead, .dead, .dead, .dead, .dead, .dead, .dead, .dead, .dead, .dead, .dead, .dead, .dead, .dead], []⟩
def l_szFieldS_h : Hint := (.seq .no (.seq .no (.seq .no (.seq (.seq .no (.block (.loop l_szFieldS_s1 .no))) .no))))
def l_szFieldS_m (N : Nat) (a : List ((List UInt8) × (List UInt8))) (left : Int) : Option (Int) :=
  (if fits (left - (a.length : Int)) then (bif (decide ((left - (a.length : Int)) < 0)) then
      (some (-1))
      else
      (iter (fun (go : ((List ((List UInt8) × (List UInt8))) × Int × Int) → Option Int) (g : (List ((List UInt8) × (List UInt8))) × Int × Int) => 
          match g with
          | (a2, left2, i) =>
          (bif (decide (i < (a2.length : Int))) then
            (Option.bind (idx a2 i) fun (e : (List UInt8) × (List UInt8)) =>
              (Option.bind (l_szField_m N e.1 e.2 left2) fun (r : Int) =>
                (bif (decide (r < 0)) then
                  (some (-1))
                  else
                  (if fits (i + 1) then (go (a2, r, (i + 1))) else none))))
            else
            (some left2))) N (a, (left - (a.length : Int)), 0))) else none)
def l_szFieldS_M (N : Nat) : Model := ⟨l_szFieldS_arg, l_szFieldS_ret, fun a => l_szFieldS_m N a.1 a.2⟩
set_option maxRecDepth 1000000 in
theorem l_szFieldS_ok (N : Nat) : ModelOk Try.prog 38 (l_szFieldS_M N) :=
  modelOk_of (E := mkEnv [(68, l_szField_M N)] [] []) (mkEnv_ok (fnsOk_cons (l_szField_ok N) fnsOk_nil) _ _) Try.func38 (by kernel_rfl) rfl N l_szFieldS_h (l_szFieldS_M N) (by kernel_rfl) (by kernel_rfl) (fun a => by kernel_rfl)
/-! loop.example/fossick/laws.szAttr -/
def l_szAttr_arg : Sh := ⟨[.agg [.pv .str, .pv (.int .i64)], .pv (.int .i64)], []⟩
def l_szAttr_ret : Sh := ⟨[.pv (.int .i64)], []⟩
def l_szAttr_h : Hint := .no
def l_szAttr_m (N : Nat) (a : List UInt8) (a2 : Int) (left : Int) : Option (Int) :=
  (if fits (left - (a.length : Int)) then (bif (decide ((left - (a.length : Int)) < 0)) then
      (some (-1))
      else
      (some (left - (a.length : Int)))) else none)
def l_szAttr_M (N : Nat) : Model := ⟨l_szAttr_arg, l_szAttr_ret, fun a => l_szAttr_m N a.1 a.2.1 a.2.2⟩
set_option maxRecDepth 1000000 in
theorem l_szAttr_ok (N : Nat) : ModelOk Try.prog 69 (l_szAttr_M N) :=
  modelOk_of (E := mkEnv [] [] []) (mkEnv_ok fnsOk_nil _ _) Try.func69 (by kernel_rfl) rfl N l_szAttr_h (l_szAttr_M N) (by kernel_rfl) (by kernel_rfl) (fun a => by kernel_rfl)
/-! loop.example/fossick/laws.szAttrS -/
def l_szAttrS_arg : Sh := ⟨[.pv (.sl (.pair .str (.int .i64))), .pv (.int .i64)], []⟩
def l_szAttrS_ret : Sh := ⟨[.pv (.int .i64)], []⟩
def l_szAttrS_s1 : Sh := ⟨[.pv (.sl (.pair .str (.int .i64))), .pv (.int .i64), .dead, .dead, .dead, .pv (.int .i64), .dead, .dead, .dead, .dead, .dead, .dead, .dead, .dead, .dead, .dead, .dead, .dead, .dead, .dead, .dead, .dead, .dead, .dead, .dead, .dead, .dead], []⟩
def l_szAttrS_h : Hint := (.seq .no (.seq .no (.seq .no (.seq (.seq .no (.block (.loop l_szAttrS_s1 .no))) .no))))
def l_szAttrS_m (N : Nat) (a : List ((List UInt8) × Int)) (left : Int) : Option (Int) :=
  (if fits (left - (a.length : Int)) then (bif (decide ((left - (a.length : Int)) < 0)) then
      (some (-1))
      else
      (iter (fun (go : ((List ((List UInt8) × Int)) × Int × Int) → Option Int) (g : (List ((List UInt8) × Int)) × Int × Int) => 
          match g with
          | (a2, left2, i) =>
          (bif (decide (i < (a2.length : Int))) then
            (Option.bind (idx a2 i) fun (e : (List UInt8) × Int) =>
              (Option.bind (l_szAttr_m N e.1 e.2 left2) fun (r : Int) =>
                (bif (decide (r < 0)) then
                  (some (-1))
                  else
                  (if fits (i + 1) then (go (a2, r, (i + 1))) else none))))
            else
            (some left2))) N (a, (left - (a.length : Int)), 0))) else none)
def l_szAttrS_M (N : Nat) : Model := ⟨l_szAttrS_arg, l_szAttrS_ret, fun a => l_szAttrS_m N a.1 a.2⟩
set_option maxRecDepth 1000000 in
theorem l_szAttrS_ok (N : Nat) : ModelOk Try.prog 39 (l_szAttrS_M N) :=
  modelOk_of (E := mkEnv [(69, l_szAttr_M N)] [] []) (mkEnv_ok (fnsOk_cons (l_szAttr_ok N) fnsOk_nil) _ _) Try.func39 (by kernel_rfl) rfl N l_szAttrS_h (l_szAttrS_M N) (by kernel_rfl) (by kernel_rfl) (fun a => by kernel_rfl)
/-! loop.example/fossick/laws.szDoc -/
def l_szDoc_arg : Sh := ⟨[.agg [.pv (.int .i64), .pv (.sl (.pair .str .str)), .pv (.sl (.pair .str (.int .i64)))], .pv (.int .i64)], []⟩
def l_szDoc_ret : Sh := ⟨[.pv (.int .i64)], []⟩
def l_szDoc_h : Hint := .no
def l_szDoc_m (N : Nat) (a : Int) (a2 : List ((List UInt8) × (List UInt8))) (a3 : List ((List UInt8) × Int)) (left : Int) : Option (Int) :=
  (Option.bind (l_szFieldS_m N a2 left) fun (r : Int) =>
    (bif (decide (r < 0)) then
      (some (-1))
      else
      (Option.bind (l_szAttrS_m N a3 r) fun (r2 : Int) =>
        (bif (decide (r2 < 0)) then
          (some (-1))
          else
          (some r2)))))
def l_szDoc_M (N : Nat) : Model := ⟨l_szDoc_arg, l_szDoc_ret, fun a => l_szDoc_m N a.1 a.2.1 a.2.2.1 a.2.2.2⟩
set_option maxRecDepth 1000000 in
theorem l_szDoc_ok (N : Nat) : ModelOk Try.prog 10 (l_szDoc_M N) :=
  modelOk_of (E := mkEnv [(38, l_szFieldS_M N), (39, l_szAttrS_M N)] [] []) (mkEnv_ok (fnsOk_cons (l_szFieldS_ok N) (fnsOk_cons (l_szAttrS_ok N) fnsOk_nil)) _ _) Try.func10 (by kernel_rfl) rfl N l_szDoc_h (l_szDoc_M N) (by kernel_rfl) (by kernel_rfl) (fun a => by kernel_rfl)
/-! loop.example/fossick/laws.szKey -/
def l_szKey_arg : Sh := ⟨[.agg [.pv .str, .pv .bool], .pv (.int .i64)], []⟩
def l_szKey_ret : Sh := ⟨[.pv (.int .i64)], []⟩
def l_szKey_h : Hint := .no
def l_szKey_m (N : Nat) (a : List UInt8) (a2 : Bool) (left : Int) : Option (Int) :=
  (if fits (left - (a.length : Int)) then (bif (decide ((left - (a.length : Int)) < 0)) then
      (some (-1))
      else
      (some (left - (a.length : Int)))) else none)
def l_szKey_M (N : Nat) : Model := ⟨l_szKey_arg, l_szKey_ret, fun a => l_szKey_m N a.1 a.2.1 a.2.2⟩
set_option maxRecDepth 1000000 in
theorem l_szKey_ok (N : Nat) : ModelOk Try.prog 40 (l_szKey_M N) :=
  modelOk_of (E := mkEnv [] [] []) (mkEnv_ok fnsOk_nil _ _) Try.func40 (by kernel_rfl) rfl N l_szKey_h (l_szKey_M N) (by kernel_rfl) (by kernel_rfl) (fun a => by kernel_rfl)
/-! loop.example/fossick/laws.szKeyS -/
def l_szKeyS_arg : Sh := ⟨[.pv (.sl (.pair .str .bool)), .pv (.int .i64)], []⟩
def l_szKeyS_ret : Sh := ⟨[.pv (.int .i64)], []⟩
def l_szKeyS_s1 : Sh := ⟨[.pv (.sl (.pair .str .bool)), .pv (.int .i64), .dead, .dead, .dead, .pv (.int .i64), .dead, .dead, .dead, .dead, .dead, .dead, .dead, .dead, .dead, .dead, .dead, .dead, .dead, .dead, .dead, .dead, .dead, .dead, .dead, .dead, .dead], []⟩
def l_szKeyS_h : Hint := (.seq .no (.seq .no (.seq .no (.seq (.seq .no (.block (.loop l_szKeyS_s1 .no))) .no))))
def l_szKeyS_m (N : Nat) (a : List ((List UInt8) × Bool)) (left : Int) : Option (Int) :=
  (if fits (left - (a.length : Int)) then (bif (decide ((left - (a.length : Int)) < 0)) then
      (some (-1))
      else
      (iter (fun (go : ((List ((List UInt8) × Bool)) × Int × Int) → Option Int) (g : (List ((List UInt8) × Bool)) × Int × Int) => 
          match g with
          | (a2, left2, i) =>
          (bif (decide (i < (a2.length : Int))) then
            (Option.bind (idx a2 i) fun (e : (List UInt8) × Bool) =>
              (Option.bind (l_szKey_m N e.1 e.2 left2) fun (r : Int) =>
                (bif (decide (r < 0)) then
                  (some (-1))
                  else
                  (if fits (i + 1) then (go (a2, r, (i + 1))) else none))))
            else
            (some left2))) N (a, (left - (a.length : Int)), 0))) else none)
def l_szKeyS_M (N : Nat) : Model := ⟨l_szKeyS_arg, l_szKeyS_ret, fun a => l_szKeyS_m N a.1 a.2⟩
set_option maxRecDepth 1000000 in
theorem l_szKeyS_ok (N : Nat) : ModelOk Try.prog 11 (l_szKeyS_M N) :=
  modelOk_of (E := mkEnv [(40, l_szKey_M N)] [] []) (mkEnv_ok (fnsOk_cons (l_szKey_ok N) fnsOk_nil) _ _) Try.func11 (by kernel_rfl) rfl N l_szKeyS_h (l_szKeyS_M N) (by kernel_rfl) (by kernel_rfl) (fun a => by kernel_rfl)
/-! loop.example/fossick/laws.toField -/
def l_toField_arg : Sh := ⟨[.agg [.pv .str, .pv .str]], []⟩
def l_toField_ret : Sh := ⟨[.agg [.pv .str, .pv .str]], []⟩
def l_toField_h : Hint := .no
def l_toField_m (N : Nat) (a : List UInt8) (a2 : List UInt8) : Option ((List UInt8) × (List UInt8)) :=
  (some (a, a2))
def l_toField_M (N : Nat) : Model := ⟨l_toField_arg, l_toField_ret, fun a => l_toField_m N a.1 a.2⟩
set_option maxRecDepth 1000000 in
theorem l_toField_ok (N : Nat) : ModelOk Try.prog 74 (l_toField_M N) :=
  modelOk_of (E := mkEnv [] [] []) (mkEnv_ok fnsOk_nil _ _) Try.func74 (by kernel_rfl) rfl N l_toField_h (l_toField_M N) (by kernel_rfl) (by kernel_rfl) (fun a => by kernel_rfl)
/-! loop.example/fossick/laws.toFieldS -/
def l_toFieldS_arg : Sh := ⟨[.pv (.sl (.pair .str .str))], []⟩
def l_toFieldS_ret : Sh := ⟨[.own 1 (.pair .str .str) 87 true], []⟩
def l_toFieldS_s1 : Sh := ⟨[.pv (.sl (.pair .str .str)), .dead, .dead, .mtk 600003 (.pair .str .str) 87 true, .pv (.int .i64), .dead, .dead, .dead, .dead, .dead, .dead, .dead, .dead, .dead, .dead, .dead, .dead, .dead, .dead, .dead, .dead, .dead, .dead], []⟩
def l_toFieldS_h : Hint := (.seq .no (.seq .no (.seq (.seq .no (.block (.loop l_toFieldS_s1 .no))) .no)))
def l_toFieldS_m (N : Nat) (a : List ((List UInt8) × (List UInt8))) : Option ((List ((List UInt8) × (List UInt8)))) :=
  (if (a.length : Int) = (a.length : Int) ∧ 0 ≤ (a.length : Int) ∧ (a.length : Int) * 32 ≤ 140737488355328 ∧ (a.length : Int) ≤ 140737488355328 then
    (iter (fun (go : ((List ((List UInt8) × (List UInt8))) × (List ((List UInt8) × (List UInt8))) × Int) → Option ((List ((List UInt8) × (List UInt8))))) (g : (List ((List UInt8) × (List UInt8))) × (List ((List UInt8) × (List UInt8))) × Int) => 
        match g with
        | (a2, out, i) =>
        (bif (decide (i < (a2.length : Int))) then
          (Option.bind (idx a2 i) fun (e : (List UInt8) × (List UInt8)) =>
            (Option.bind (l_toField_m N e.1 e.2) fun (r : (List UInt8) × (List UInt8)) =>
              (if 0 ≤ i ∧ i < (out.length : Int) then
                (Option.bind (out[i.toNat]?) fun (e2 : (List UInt8) × (List UInt8)) =>
                  (if fits (i + 1) then (go (a2, (out.set i.toNat r), (i + 1))) else none))
                else none)))
          else
          (some out))) N (a, (List.replicate (a.length : Int).toNat (([] : List UInt8), ([] : List UInt8))), 0))
    else none)
def l_toFieldS_M (N : Nat) : Model := ⟨l_toFieldS_arg, l_toFieldS_ret, fun a => l_toFieldS_m N a⟩
set_option maxRecDepth 1000000 in
theorem l_toFieldS_ok (N : Nat) : ModelOk Try.prog 44 (l_toFieldS_M N) :=
  modelOk_of (E := mkEnv [(74, l_toField_M N)] [7] [] [20]) (mkEnv_ok (fnsOk_cons (l_toField_ok N) fnsOk_nil) _ _ _) Try.func44 (by kernel_rfl) rfl N l_toFieldS_h (l_toFieldS_M N) (by kernel_rfl) (by kernel_rfl) (fun a => by kernel_rfl)
/-! loop.example/fossick/laws.toAttr -/
def l_toAttr_arg : Sh := ⟨[.agg [.pv .str, .pv (.int .i64)]], []⟩
def l_toAttr_ret : Sh := ⟨[.agg [.pv .str, .pv (.int .i64)]], []⟩
def l_toAttr_h : Hint := .no
def l_toAttr_m (N : Nat) (a : List UInt8) (a2 : Int) : Option ((List UInt8) × Int) :=
  (some (a, a2))
def l_toAttr_M (N : Nat) : Model := ⟨l_toAttr_arg, l_toAttr_ret, fun a => l_toAttr_m N a.1 a.2⟩
set_option maxRecDepth 1000000 in
theorem l_toAttr_ok (N : Nat) : ModelOk Try.prog 75 (l_toAttr_M N) :=
  modelOk_of (E := mkEnv [] [] []) (mkEnv_ok fnsOk_nil _ _) Try.func75 (by kernel_rfl) rfl N l_toAttr_h (l_toAttr_M N) (by kernel_rfl) (by kernel_rfl) (fun a => by kernel_rfl)
/-! loop.example/fossick/laws.toAttrS -/
def l_toAttrS_arg : Sh := ⟨[.pv (.sl (.pair .str (.int .i64)))], []⟩
def l_toAttrS_ret : Sh := ⟨[.own 1 (.pair .str (.int .i64)) 90 true], []⟩
def l_toAttrS_s1 : Sh := ⟨[.pv (.sl (.pair .str (.int .i64))), .dead, .dead, .mtk 600003 (.pair .str (.int .i64)) 90 true, .pv (.int .i64), .dead, .dead, .dead, .dead, .dead, .dead, .dead, .dead, .dead, .dead, .dead, .dead, .dead, .dead, .dead, .dead, .dead, .dead], []⟩
def l_toAttrS_h : Hint := (.seq .no (.seq .no (.seq (.seq .no (.block (.loop l_toAttrS_s1 .no))) .no)))
def l_toAttrS_m (N : Nat) (a : List ((List UInt8) × Int)) : Option ((List ((List UInt8) × Int))) :=
  (if (a.length : Int) = (a.length : Int) ∧ 0 ≤ (a.length : Int) ∧ (a.length : Int) * 24 ≤ 140737488355328 ∧ (a.length : Int) ≤ 140737488355328 then
    (iter (fun (go : ((List ((List UInt8) × Int)) × (List ((List UInt8) × Int)) × Int) → Option ((List ((List UInt8) × Int)))) (g : (List ((List UInt8) × Int)) × (List ((List UInt8) × Int)) × Int) => 
        match g with
        | (a2, out, i) =>
        (bif (decide (i < (a2.length : Int))) then
          (Option.bind (idx a2 i) fun (e : (List UInt8) × Int) =>
            (Option.bind (l_toAttr_m N e.1 e.2) fun (r : (List UInt8) × Int) =>
              (if 0 ≤ i ∧ i < (out.length : Int) then
                (Option.bind (out[i.toNat]?) fun (e2 : (List UInt8) × Int) =>
                  (if fits (i + 1) then (go (a2, (out.set i.toNat r), (i + 1))) else none))
                else none)))
          else
          (some out))) N (a, (List.replicate (a.length : Int).toNat (([] : List UInt8), 0)), 0))
    else none)
def l_toAttrS_M (N : Nat) : Model := ⟨l_toAttrS_arg, l_toAttrS_ret, fun a => l_toAttrS_m N a⟩
set_option maxRecDepth 1000000 in
theorem l_toAttrS_ok (N : Nat) : ModelOk Try.prog 45 (l_toAttrS_M N) :=
  modelOk_of (E := mkEnv [(75, l_toAttr_M N)] [7] [] [20]) (mkEnv_ok (fnsOk_cons (l_toAttr_ok N) fnsOk_nil) _ _ _) Try.func45 (by kernel_rfl) rfl N l_toAttrS_h (l_toAttrS_M N) (by kernel_rfl) (by kernel_rfl) (fun a => by kernel_rfl)
/-! loop.example/fossick/laws.toDoc -/
def l_toDoc_arg : Sh := ⟨[.agg [.pv (.int .i64), .pv (.sl (.pair .str .str)), .pv (.sl (.pair .str (.int .i64)))]], []⟩
def l_toDoc_ret : Sh := ⟨[.agg [.pv (.int .i64), .own 1 (.pair .str .str) 87 true, .own 2 (.pair .str (.int .i64)) 90 true]], []⟩
def l_toDoc_h : Hint := .no
def l_toDoc_m (N : Nat) (a : Int) (a2 : List ((List UInt8) × (List UInt8))) (a3 : List ((List UInt8) × Int)) : Option (Int × (List ((List UInt8) × (List UInt8))) × (List ((List UInt8) × Int))) :=
  (Option.bind (l_toFieldS_m N a2) fun (r : (List ((List UInt8) × (List UInt8)))) =>
    (Option.bind (l_toAttrS_m N a3) fun (r2 : (List ((List UInt8) × Int))) =>
      (some (a, r, r2))))
def l_toDoc_M (N : Nat) : Model := ⟨l_toDoc_arg, l_toDoc_ret, fun a => l_toDoc_m N a.1 a.2.1 a.2.2⟩
set_option maxRecDepth 1000000 in
theorem l_toDoc_ok (N : Nat) : ModelOk Try.prog 13 (l_toDoc_M N) :=
  modelOk_of (E := mkEnv [(44, l_toFieldS_M N), (45, l_toAttrS_M N)] [] [] [9, 13]) (mkEnv_ok (fnsOk_cons (l_toFieldS_ok N) (fnsOk_cons (l_toAttrS_ok N) fnsOk_nil)) _ _ _) Try.func13 (by kernel_rfl) rfl N l_toDoc_h (l_toDoc_M N) (by kernel_rfl) (by kernel_rfl) (fun a => by kernel_rfl)
/-! loop.example/fossick/laws.toKey -/
def l_toKey_arg : Sh := ⟨[.agg [.pv .str, .pv .bool]], []⟩
def l_toKey_ret : Sh := ⟨[.agg [.pv .str, .pv .bool]], []⟩
def l_toKey_h : Hint := .no
def l_toKey_m (N : Nat) (a : List UInt8) (a2 : Bool) : Option ((List UInt8) × Bool) :=
  (some (a, a2))
def l_toKey_M (N : Nat) : Model := ⟨l_toKey_arg, l_toKey_ret, fun a => l_toKey_m N a.1 a.2⟩
set_option maxRecDepth 1000000 in
theorem l_toKey_ok (N : Nat) : ModelOk Try.prog 46 (l_toKey_M N) :=
  modelOk_of (E := mkEnv [] [] []) (mkEnv_ok fnsOk_nil _ _) Try.func46 (by kernel_rfl) rfl N l_toKey_h (l_toKey_M N) (by kernel_rfl) (by kernel_rfl) (fun a => by kernel_rfl)
/-! loop.example/fossick/laws.toKeyS -/
def l_toKeyS_arg : Sh := ⟨[.pv (.sl (.pair .str .bool))], []⟩
def l_toKeyS_ret : Sh := ⟨[.own 1 (.pair .str .bool) 53 true], []⟩
def l_toKeyS_s1 : Sh := ⟨[.pv (.sl (.pair .str .bool)), .dead, .dead, .mtk 600003 (.pair .str .bool) 53 true, .pv (.int .i64), .dead, .dead, .dead, .dead, .dead, .dead, .dead, .dead, .dead, .dead, .dead, .dead, .dead, .dead, .dead, .dead, .dead, .dead], []⟩
def l_toKeyS_h : Hint := (.seq .no (.seq .no (.seq (.seq .no (.block (.loop l_toKeyS_s1 .no))) .no)))
def l_toKeyS_m (N : Nat) (a : List ((List UInt8) × Bool)) : Option ((List ((List UInt8) × Bool))) :=
  (if (a.length : Int) = (a.length : Int) ∧ 0 ≤ (a.length : Int) ∧ (a.length : Int) * 24 ≤ 140737488355328 ∧ (a.length : Int) ≤ 140737488355328 then
    (iter (fun (go : ((List ((List UInt8) × Bool)) × (List ((List UInt8) × Bool)) × Int) → Option ((List ((List UInt8) × Bool)))) (g : (List ((List UInt8) × Bool)) × (List ((List UInt8) × Bool)) × Int) => 
        match g with
        | (a2, out, i) =>
        (bif (decide (i < (a2.length : Int))) then
          (Option.bind (idx a2 i) fun (e : (List UInt8) × Bool) =>
            (Option.bind (l_toKey_m N e.1 e.2) fun (r : (List UInt8) × Bool) =>
              (if 0 ≤ i ∧ i < (out.length : Int) then
                (Option.bind (out[i.toNat]?) fun (e2 : (List UInt8) × Bool) =>
                  (if fits (i + 1) then (go (a2, (out.set i.toNat r), (i + 1))) else none))
                else none)))
          else
          (some out))) N (a, (List.replicate (a.length : Int).toNat (([] : List UInt8), false)), 0))
    else none)
def l_toKeyS_M (N : Nat) : Model := ⟨l_toKeyS_arg, l_toKeyS_ret, fun a => l_toKeyS_m N a⟩
set_option maxRecDepth 1000000 in
theorem l_toKeyS_ok (N : Nat) : ModelOk Try.prog 14 (l_toKeyS_M N) :=
  modelOk_of (E := mkEnv [(46, l_toKey_M N)] [7] [] [20]) (mkEnv_ok (fnsOk_cons (l_toKey_ok N) fnsOk_nil) _ _ _) Try.func14 (by kernel_rfl) rfl N l_toKeyS_h (l_toKeyS_M N) (by kernel_rfl) (by kernel_rfl) (fun a => by kernel_rfl)
/-! loop.example/fossick/spec.l1Fold -/
def s_l1Fold_arg : Sh := ⟨[.pv (.int .u8)], []⟩
def s_l1Fold_ret : Sh := ⟨[.pv (.int .u8)], []⟩
def s_l1Fold_h : Hint := .no
def s_l1Fold_m (N : Nat) (b : Int) : Option (Int) :=
  (bif (decide ((65 : Int) ≤ b)) then
    (bif (decide (b ≤ 90)) then
      (some (IntKind.u8.wrap (b + 32)))
      else
      (bif (decide ((97 : Int) ≤ b)) then
        (bif (decide (b ≤ 122)) then
          (some b)
          else
          (bif (decide ((48 : Int) ≤ b)) then
            (bif (decide (b ≤ 57)) then
              (some b)
              else
              (some 0))
            else
            (some 0)))
        else
        (bif (decide ((48 : Int) ≤ b)) then
          (bif (decide (b ≤ 57)) then
            (some b)
            else
            (some 0))
          else
          (some 0))))
    else
    (bif (decide ((97 : Int) ≤ b)) then
      (bif (decide (b ≤ 122)) then
        (some b)
        else
        (bif (decide ((48 : Int) ≤ b)) then
          (bif (decide (b ≤ 57)) then
            (some b)
            else
            (some 0))
          else
          (some 0)))
      else
      (bif (decide ((48 : Int) ≤ b)) then
        (bif (decide (b ≤ 57)) then
          (some b)
          else
          (some 0))
        else
        (some 0))))
def s_l1Fold_M (N : Nat) : Model := ⟨s_l1Fold_arg, s_l1Fold_ret, fun a => s_l1Fold_m N a⟩
set_option maxRecDepth 1000000 in
theorem s_l1Fold_ok (N : Nat) : ModelOk Try.prog 87 (s_l1Fold_M N) :=
  modelOk_of (E := mkEnv [] [] []) (mkEnv_ok fnsOk_nil _ _) Try.func87 (by kernel_rfl) rfl N s_l1Fold_h (s_l1Fold_M N) (by kernel_rfl) (by kernel_rfl) (fun a => by kernel_rfl)
/-! loop.example/fossick/spec.l1In -/
def s_l1In_arg : Sh := ⟨[.pv (.int .i64), .pv (.int .i64), .pv (.int .i64)], []⟩
def s_l1In_ret : Sh := ⟨[.pv .bool], []⟩
def s_l1In_h : Hint := .no
def s_l1In_m (N : Nat) (n : Int) (low : Int) (high : Int) : Option (Bool) :=
  (bif (decide (low ≤ n)) then
    (some (decide (n ≤ high)))
    else
    (some false))
def s_l1In_M (N : Nat) : Model := ⟨s_l1In_arg, s_l1In_ret, fun a => s_l1In_m N a.1 a.2.1 a.2.2⟩
set_option maxRecDepth 1000000 in
theorem s_l1In_ok (N : Nat) : ModelOk Try.prog 72 (s_l1In_M N) :=
  modelOk_of (E := mkEnv [] [] []) (mkEnv_ok fnsOk_nil _ _) Try.func72 (by kernel_rfl) rfl N s_l1In_h (s_l1In_M N) (by kernel_rfl) (by kernel_rfl) (fun a => by kernel_rfl)
/-! loop.example/fossick/spec.l1WordOk -/
def s_l1WordOk_arg : Sh := ⟨[.pv .str], []⟩
def s_l1WordOk_ret : Sh := ⟨[.pv .bool], []⟩
def s_l1WordOk_s1 : Sh := ⟨[.pv .str, .dead, .dead, .pv (.int .i64), .dead, .dead, .dead, .dead, .dead, .dead, .dead, .dead, .dead, .dead, .dead, .dead, .dead, .dead, .dead, .dead, .dead, .dead, .dead, .dead, .dead, .dead, .dead], []⟩
def s_l1WordOk_h : Hint := (.seq .no (.seq (.seq .no (.block (.loop s_l1WordOk_s1 .no))) .no))
def s_l1WordOk_m (N : Nat) (s : List UInt8) : Option (Bool) :=
  (iter (fun (go : ((List UInt8) × Int) → Option Bool) (g : (List UInt8) × Int) => 
      match g with
      | (s2, i) =>
      (bif (decide (i < (s2.length : Int))) then
        (Option.bind (idx s2 i) fun (c : UInt8) =>
          (Option.bind (s_l1Fold_m N (c.toNat : Int)) fun (r : Int) =>
            (Option.bind (idx s2 i) fun (c2 : UInt8) =>
              (bif (!decide (r = (c2.toNat : Int))) then
                (some false)
                else
                (Option.bind (idx s2 i) fun (c3 : UInt8) =>
                  (bif (decide ((c3.toNat : Int) = 0)) then
                    (some false)
                    else
                    (if fits (i + 1) then (go (s2, (i + 1))) else none)))))))
        else
        (Option.bind (s_l1In_m N (s2.length : Int) 1 12) fun (r2 : Bool) =>
          (some r2)))) N (s, 0))
def s_l1WordOk_M (N : Nat) : Model := ⟨s_l1WordOk_arg, s_l1WordOk_ret, fun a => s_l1WordOk_m N a⟩
set_option maxRecDepth 1000000 in
theorem s_l1WordOk_ok (N : Nat) : ModelOk Try.prog 70 (s_l1WordOk_M N) :=
  modelOk_of (E := mkEnv [(87, s_l1Fold_M N), (72, s_l1In_M N)] [] []) (mkEnv_ok (fnsOk_cons (s_l1Fold_ok N) (fnsOk_cons (s_l1In_ok N) fnsOk_nil)) _ _) Try.func70 (by kernel_rfl) rfl N s_l1WordOk_h (s_l1WordOk_M N) (by kernel_rfl) (by kernel_rfl) (fun a => by kernel_rfl)
/-! loop.example/fossick/spec.l1Text -/
def s_l1Text_arg : Sh := ⟨[.pv .str], []⟩
def s_l1Text_ret : Sh := ⟨[.pv .bool], []⟩
def s_l1Text_s1 : Sh := ⟨[.pv .str, .dead, .dead, .pv (.int .i64), .dead, .dead, .dead, .dead, .dead, .dead, .dead, .dead, .dead, .dead, .dead, .dead, .dead, .dead, .dead, .dead, .dead, .dead, .dead], []⟩
def s_l1Text_h : Hint := (.seq .no (.seq (.seq .no (.block (.loop s_l1Text_s1 .no))) .no))
def s_l1Text_m (N : Nat) (s : List UInt8) : Option (Bool) :=
  (iter (fun (go : ((List UInt8) × Int) → Option Bool) (g : (List UInt8) × Int) => 
      match g with
      | (s2, i) =>
      (bif (decide (i < (s2.length : Int))) then
        (Option.bind (idx s2 i) fun (c : UInt8) =>
          (bif (decide ((c.toNat : Int) < 32)) then
            (some false)
            else
            (Option.bind (idx s2 i) fun (c2 : UInt8) =>
              (bif (decide ((126 : Int) < (c2.toNat : Int))) then
                (some false)
                else
                (if fits (i + 1) then (go (s2, (i + 1))) else none)))))
        else
        (some (decide ((s2.length : Int) ≤ 160))))) N (s, 0))
def s_l1Text_M (N : Nat) : Model := ⟨s_l1Text_arg, s_l1Text_ret, fun a => s_l1Text_m N a⟩
set_option maxRecDepth 1000000 in
theorem s_l1Text_ok (N : Nat) : ModelOk Try.prog 71 (s_l1Text_M N) :=
  modelOk_of (E := mkEnv [] [] []) (mkEnv_ok fnsOk_nil _ _) Try.func71 (by kernel_rfl) rfl N s_l1Text_h (s_l1Text_M N) (by kernel_rfl) (by kernel_rfl) (fun a => by kernel_rfl)
/-! loop.example/fossick/spec.l6Ok -/
def s_l6Ok_arg : Sh := ⟨[.agg [.pv (.int .i64), .pv (.sl (.pair .str .str)), .pv (.sl (.pair .str (.int .i64)))]], []⟩
def s_l6Ok_ret : Sh := ⟨[.pv .bool], []⟩
def s_l6Ok_s1 : Sh := ⟨[.dead, .box 1 0, .dead, .pv (.int .i64), .dead, .dead, .dead, .dead, .dead, .dead, .dead, .dead, .dead, .dead, .dead, .dead, .dead, .dead, .dead, .dead, .dead, .dead, .dead, .dead, .dead, .dead, .dead, .dead, .dead, .dead, .dead, .dead, .dead, .dead, .dead, .dead, .dead, .dead, .dead, .dead, .dead, .dead, .dead, .dead, .dead, .dead, .dead, .dead, .dead, .dead, .dead, .dead, .dead, .dead, .dead, .dead, .dead, .dead, .dead, .dead, .dead, .dead, .dead, .dead, .dead, .dead, .dead, .dead, .dead, .dead, .dead, .dead, .dead, .dead, .dead, .dead, .dead, .dead, .dead, .dead, .dead, .dead, .dead, .dead, .dead, .dead, .dead, .dead, .dead, .dead, .dead, .dead, .dead, .dead, .dead, .dead, .dead, .dead, .dead, .dead, .dead, .dead, .dead, .dead], [(1, false, [.pv (.int .i64), .pv (.sl (.pair .str .str)), .pv (.sl (.pair .str (.int .i64)))])]⟩
def s_l6Ok_s2 : Sh := ⟨[.dead, .box 1 0, .dead, .dead, .dead, .pv (.int .i64), .dead, .dead, .dead, .dead, .dead, .dead, .dead, .dead, .dead, .dead, .dead, .dead, .dead, .dead, .dead, .dead, .dead, .dead, .dead, .dead, .dead, .dead, .dead, .dead, .dead, .dead, .dead, .dead, .dead, .dead, .dead, .dead, .dead, .dead, .dead, .dead, .dead, .dead, .dead, .dead, .dead, .dead, .dead, .dead, .dead, .dead, .dead, .dead, .dead, .dead, .dead, .dead, .dead, .dead, .dead, .dead, .dead, .dead, .dead, .dead, .dead, .dead, .dead, .dead, .dead, .dead, .dead, .dead, .dead, .dead, .dead, .dead, .dead, .dead, .dead, .dead, .dead, .dead, .dead, .dead, .dead, .dead, .dead, .dead, .dead, .dead, .dead, .dead, .dead, .dead, .dead, .dead, .dead, .dead, .dead, .dead, .dead, .dead], [(1, false, [.pv (.int .i64), .pv (.sl (.pair .str .str)), .pv (.sl (.pair .str (.int .i64)))])]⟩
def s_l6Ok_h : Hint := (.seq .no (.seq (.seq .no (.block (.loop s_l6Ok_s1 .no))) (.seq (.seq .no (.block (.loop s_l6Ok_s2 .no))) .no)))
def s_l6Ok_m (N : Nat) (d : Int) (d2 : List ((List UInt8) × (List UInt8))) (d3 : List ((List UInt8) × Int)) : Option (Bool) :=
  (iter (fun (go : (Int × Int × (List ((List UInt8) × (List UInt8))) × (List ((List UInt8) × Int))) → Option Bool) (g : Int × Int × (List ((List UInt8) × (List UInt8))) × (List ((List UInt8) × Int))) => 
      match g with
      | (i, d4, d5, d6) =>
      (bif (decide (i < (d5.length : Int))) then
        (Option.bind (idx d5 i) fun (e : (List UInt8) × (List UInt8)) =>
          (Option.bind (s_l1WordOk_m N e.1) fun (r : Bool) =>
            (bif (!r) then
              (some false)
              else
              (Option.bind (s_l1Text_m N e.2) fun (r2 : Bool) =>
                (bif (!r2) then
                  (some false)
                  else
                  (bif (decide ((0 : Int) < i)) then
                    (if fits (i - 1) then (Option.bind (idx d5 (i - 1)) fun (e2 : (List UInt8) × (List UInt8)) =>
                        (bif (Op.bytesLess e.1 e2.1 || decide (e.1 = e2.1)) then
                          (some false)
                          else
                          (if fits (i + 1) then (go ((i + 1), d4, d5, d6)) else none))) else none)
                    else
                    (if fits (i + 1) then (go ((i + 1), d4, d5, d6)) else none)))))))
        else
        (iter (fun (go2 : (Int × Int × (List ((List UInt8) × (List UInt8))) × (List ((List UInt8) × Int))) → Option Bool) (g : Int × Int × (List ((List UInt8) × (List UInt8))) × (List ((List UInt8) × Int))) => 
            match g with
            | (i2, d7, d8, d9) =>
            (bif (decide (i2 < (d9.length : Int))) then
              (Option.bind (idx d9 i2) fun (e3 : (List UInt8) × Int) =>
                (Option.bind (s_l1WordOk_m N e3.1) fun (r3 : Bool) =>
                  (bif (!r3) then
                    (some false)
                    else
                    (Option.bind (idx d9 i2) fun (e4 : (List UInt8) × Int) =>
                      (Option.bind (s_l1In_m N e4.2 0 999999999) fun (r4 : Bool) =>
                        (bif (!r4) then
                          (some false)
                          else
                          (bif (decide ((0 : Int) < i2)) then
                            (Option.bind (idx d9 i2) fun (e5 : (List UInt8) × Int) =>
                              (if fits (i2 - 1) then (Option.bind (idx d9 (i2 - 1)) fun (e6 : (List UInt8) × Int) =>
                                  (bif (Op.bytesLess e5.1 e6.1 || decide (e5.1 = e6.1)) then
                                    (some false)
                                    else
                                    (if fits (i2 + 1) then (go2 ((i2 + 1), d7, d8, d9)) else none))) else none))
                            else
                            (if fits (i2 + 1) then (go2 ((i2 + 1), d7, d8, d9)) else none))))))))
              else
              (Option.bind (s_l1In_m N d7 1 9999) fun (r5 : Bool) =>
                (bif r5 then
                  (Option.bind (s_l1In_m N (d8.length : Int) 0 3) fun (r6 : Bool) =>
                    (bif r6 then
                      (some (decide ((d9.length : Int) ≤ 3)))
                      else
                      (some false)))
                  else
                  (some false))))) N (0, d4, d5, d6)))) N (0, d, d2, d3))
def s_l6Ok_M (N : Nat) : Model := ⟨s_l6Ok_arg, s_l6Ok_ret, fun a => s_l6Ok_m N a.1 a.2.1 a.2.2⟩
set_option maxRecDepth 1000000 in
theorem s_l6Ok_ok (N : Nat) : ModelOk Try.prog 41 (s_l6Ok_M N) :=
  modelOk_of (E := mkEnv [(70, s_l1WordOk_M N), (71, s_l1Text_M N), (72, s_l1In_M N)] [] []) (mkEnv_ok (fnsOk_cons (s_l1WordOk_ok N) (fnsOk_cons (s_l1Text_ok N) (fnsOk_cons (s_l1In_ok N) fnsOk_nil))) _ _) Try.func41 (by kernel_rfl) rfl N s_l6Ok_h (s_l6Ok_M N) (by kernel_rfl) (by kernel_rfl) (fun a => by kernel_rfl)
/-! loop.example/fossick/spec.l22Keys -/
def s_l22Keys_arg : Sh := ⟨[.pv (.sl (.pair .str .bool))], []⟩
def s_l22Keys_ret : Sh := ⟨[.pv .bool], []⟩
def s_l22Keys_s1 : Sh := ⟨[.pv (.sl (.pair .str .bool)), .dead, .dead, .pv (.int .i64), .dead, .dead, .dead, .dead, .dead, .dead, .dead, .dead, .dead, .dead, .dead, .dead, .dead, .dead, .dead, .dead], []⟩
def s_l22Keys_h : Hint := (.seq .no (.seq (.seq .no (.block (.loop s_l22Keys_s1 .no))) .no))
def s_l22Keys_m (N : Nat) (keys : List ((List UInt8) × Bool)) : Option (Bool) :=
  (iter (fun (go : ((List ((List UInt8) × Bool)) × Int) → Option Bool) (g : (List ((List UInt8) × Bool)) × Int) => 
      match g with
      | (keys2, i) =>
      (bif (decide (i < (keys2.length : Int))) then
        (Option.bind (idx keys2 i) fun (e : (List UInt8) × Bool) =>
          (Option.bind (s_l1WordOk_m N e.1) fun (r : Bool) =>
            (bif (!r) then
              (some false)
              else
              (if fits (i + 1) then (go (keys2, (i + 1))) else none))))
        else
        (some (decide ((keys2.length : Int) ≤ 3))))) N (keys, 0))
def s_l22Keys_M (N : Nat) : Model := ⟨s_l22Keys_arg, s_l22Keys_ret, fun a => s_l22Keys_m N a⟩
set_option maxRecDepth 1000000 in
theorem s_l22Keys_ok (N : Nat) : ModelOk Try.prog 42 (s_l22Keys_M N) :=
  modelOk_of (E := mkEnv [(70, s_l1WordOk_M N)] [] []) (mkEnv_ok (fnsOk_cons (s_l1WordOk_ok N) fnsOk_nil) _ _) Try.func42 (by kernel_rfl) rfl N s_l22Keys_h (s_l22Keys_M N) (by kernel_rfl) (by kernel_rfl) (fun a => by kernel_rfl)
/-! loop.example/fossick/spec.l6Num -/
def s_l6Num_arg : Sh := ⟨[.agg [.pv (.int .i64), .pv (.sl (.pair .str .str)), .pv (.sl (.pair .str (.int .i64)))], .pv .str], []⟩
def s_l6Num_ret : Sh := ⟨[.pv (.int .i64)], []⟩
def s_l6Num_s1 : Sh := ⟨[.dead, .pv .str, .box 2 0, .dead, .dead, .pv (.int .i64), .dead, .dead, .dead, .dead, .dead, .dead, .dead, .dead, .dead, .dead, .dead, .dead, .dead, .dead, .dead, .dead, .dead, .dead, .dead, .dead, .dead], [(2, false, [.pv (.int .i64), .pv (.sl (.pair .str .str)), .pv (.sl (.pair .str (.int .i64)))])]⟩
def s_l6Num_h : Hint := (.seq .no (.seq (.seq .no (.block (.loop s_l6Num_s1 .no))) .no))
def s_l6Num_m (N : Nat) (d : Int) (d2 : List ((List UInt8) × (List UInt8))) (d3 : List ((List UInt8) × Int)) (name : List UInt8) : Option (Int) :=
  (iter (fun (go : ((List UInt8) × Int × Int × (List ((List UInt8) × (List UInt8))) × (List ((List UInt8) × Int))) → Option Int) (g : (List UInt8) × Int × Int × (List ((List UInt8) × (List UInt8))) × (List ((List UInt8) × Int))) => 
      match g with
      | (name2, i, d4, d5, d6) =>
      (bif (decide (i < (d6.length : Int))) then
        (Option.bind (idx d6 i) fun (e : (List UInt8) × Int) =>
          (bif (decide (e.1 = name2)) then
            (Option.bind (idx d6 i) fun (e2 : (List UInt8) × Int) =>
              (some e2.2))
            else
            (if fits (i + 1) then (go (name2, (i + 1), d4, d5, d6)) else none)))
        else
        (some (-1)))) N (name, 0, d, d2, d3))
def s_l6Num_M (N : Nat) : Model := ⟨s_l6Num_arg, s_l6Num_ret, fun a => s_l6Num_m N a.1 a.2.1 a.2.2.1 a.2.2.2⟩
set_option maxRecDepth 1000000 in
theorem s_l6Num_ok (N : Nat) : ModelOk Try.prog 88 (s_l6Num_M N) :=
  modelOk_of (E := mkEnv [] [] []) (mkEnv_ok fnsOk_nil _ _) Try.func88 (by kernel_rfl) rfl N s_l6Num_h (s_l6Num_M N) (by kernel_rfl) (by kernel_rfl) (fun a => by kernel_rfl)
/-! loop.example/fossick/spec.l22Cmp -/
def s_l22Cmp_arg : Sh := ⟨[.agg [.pv (.int .i64), .pv (.sl (.pair .str .str)), .pv (.sl (.pair .str (.int .i64)))], .agg [.pv (.int .i64), .pv (.sl (.pair .str .str)), .pv (.sl (.pair .str (.int .i64)))], .agg [.pv .str, .pv .bool]], []⟩
def s_l22Cmp_ret : Sh := ⟨[.pv (.int .i64)], []⟩
def s_l22Cmp_h : Hint := .no
def s_l22Cmp_m (N : Nat) (a : Int) (a2 : List ((List UInt8) × (List UInt8))) (a3 : List ((List UInt8) × Int)) (b : Int) (b2 : List ((List UInt8) × (List UInt8))) (b3 : List ((List UInt8) × Int)) (k : List UInt8) (k2 : Bool) : Option (Int) :=
  (Option.bind (s_l6Num_m N a a2 a3 k) fun (r : Int) =>
    (Option.bind (s_l6Num_m N b b2 b3 k) fun (r2 : Int) =>
      (bif (decide (r = r2)) then
        (some 0)
        else
        (bif (decide (r < 0)) then
          (some 1)
          else
          (bif (decide (r2 < 0)) then
            (some (-1))
            else
            (bif (decide (r < r2)) then
              (bif (!k2) then
                (some (-1))
                else
                (bif (decide (r2 < r)) then
                  (bif k2 then
                    (some (-1))
                    else
                    (some 1))
                  else
                  (some 1)))
              else
              (bif (decide (r2 < r)) then
                (bif k2 then
                  (some (-1))
                  else
                  (some 1))
                else
                (some 1))))))))
def s_l22Cmp_M (N : Nat) : Model := ⟨s_l22Cmp_arg, s_l22Cmp_ret, fun a => s_l22Cmp_m N a.1 a.2.1 a.2.2.1 a.2.2.2.1 a.2.2.2.2.1 a.2.2.2.2.2.1 a.2.2.2.2.2.2.1 a.2.2.2.2.2.2.2⟩
set_option maxRecDepth 1000000 in
theorem s_l22Cmp_ok (N : Nat) : ModelOk Try.prog 73 (s_l22Cmp_M N) :=
  modelOk_of (E := mkEnv [(88, s_l6Num_M N)] [] []) (mkEnv_ok (fnsOk_cons (s_l6Num_ok N) fnsOk_nil) _ _) Try.func73 (by kernel_rfl) rfl N s_l22Cmp_h (s_l22Cmp_M N) (by kernel_rfl) (by kernel_rfl) (fun a => by kernel_rfl)
/-! loop.example/fossick/spec.l22Less -/
def s_l22Less_arg : Sh := ⟨[.agg [.pv (.int .i64), .pv (.sl (.pair .str .str)), .pv (.sl (.pair .str (.int .i64)))], .agg [.pv (.int .i64), .pv (.sl (.pair .str .str)), .pv (.sl (.pair .str (.int .i64)))], .pv (.sl (.pair .str .bool))], []⟩
def s_l22Less_ret : Sh := ⟨[.pv .bool], []⟩
def s_l22Less_s1 : Sh := ⟨[.dead, .dead, .pv (.sl (.pair .str .bool)), .box 3 0, .box 4 0, .dead, .dead, .pv (.int .i64), .dead, .dead, .dead, .dead, .dead, .dead, .dead, .dead, .dead, .dead, .dead, .dead, .dead, .dead, .dead, .dead, .dead, .dead, .dead, .dead, .dead, .dead, .dead], [(3, false, [.pv (.int .i64), .pv (.sl (.pair .str .str)), .pv (.sl (.pair .str (.int .i64)))]), (4, false, [.pv (.int .i64), .pv (.sl (.pair .str .str)), .pv (.sl (.pair .str (.int .i64)))])]⟩
def s_l22Less_h : Hint := (.seq .no (.seq (.seq .no (.block (.loop s_l22Less_s1 .no))) .no))
def s_l22Less_m (N : Nat) (a : Int) (a2 : List ((List UInt8) × (List UInt8))) (a3 : List ((List UInt8) × Int)) (b : Int) (b2 : List ((List UInt8) × (List UInt8))) (b3 : List ((List UInt8) × Int)) (keys : List ((List UInt8) × Bool)) : Option (Bool) :=
  (iter (fun (go : ((List ((List UInt8) × Bool)) × Int × Int × (List ((List UInt8) × (List UInt8))) × (List ((List UInt8) × Int)) × Int × (List ((List UInt8) × (List UInt8))) × (List ((List UInt8) × Int))) → Option Bool) (g : (List ((List UInt8) × Bool)) × Int × Int × (List ((List UInt8) × (List UInt8))) × (List ((List UInt8) × Int)) × Int × (List ((List UInt8) × (List UInt8))) × (List ((List UInt8) × Int))) => 
      match g with
      | (keys2, i, a4, a5, a6, b4, b5, b6) =>
      (bif (decide (i < (keys2.length : Int))) then
        (Option.bind (idx keys2 i) fun (e : (List UInt8) × Bool) =>
          (Option.bind (s_l22Cmp_m N a4 a5 a6 b4 b5 b6 e.1 e.2) fun (r : Int) =>
            (bif (!decide (r = 0)) then
              (some (decide (r < 0)))
              else
              (if fits (i + 1) then (go (keys2, (i + 1), a4, a5, a6, b4, b5, b6)) else none))))
        else
        (some (decide (a4 < b4))))) N (keys, 0, a, a2, a3, b, b2, b3))
def s_l22Less_M (N : Nat) : Model := ⟨s_l22Less_arg, s_l22Less_ret, fun a => s_l22Less_m N a.1 a.2.1 a.2.2.1 a.2.2.2.1 a.2.2.2.2.1 a.2.2.2.2.2.1 a.2.2.2.2.2.2⟩
set_option maxRecDepth 1000000 in
theorem s_l22Less_ok (N : Nat) : ModelOk Try.prog 43 (s_l22Less_M N) :=
  modelOk_of (E := mkEnv [(73, s_l22Cmp_M N)] [] []) (mkEnv_ok (fnsOk_cons (s_l22Cmp_ok N) fnsOk_nil) _ _) Try.func43 (by kernel_rfl) rfl N s_l22Less_h (s_l22Less_M N) (by kernel_rfl) (by kernel_rfl) (fun a => by kernel_rfl)
/-! loop.example/fossick/spec.SortLess -/
def s_SortLess_arg : Sh := ⟨[.agg [.pv (.int .i64), .pv (.sl (.pair .str .str)), .pv (.sl (.pair .str (.int .i64)))], .agg [.pv (.int .i64), .pv (.sl (.pair .str .str)), .pv (.sl (.pair .str (.int .i64)))], .pv (.sl (.pair .str .bool))], []⟩
def s_SortLess_ret : Sh := ⟨[.pv .bool], []⟩
def s_SortLess_h : Hint := .no
def s_SortLess_m (N : Nat) (a : Int) (a2 : List ((List UInt8) × (List UInt8))) (a3 : List ((List UInt8) × Int)) (b : Int) (b2 : List ((List UInt8) × (List UInt8))) (b3 : List ((List UInt8) × Int)) (keys : List ((List UInt8) × Bool)) : Option (Bool) :=
  (Option.bind (s_l6Ok_m N a a2 a3) fun (r : Bool) =>
    (bif r then
      (Option.bind (s_l6Ok_m N b b2 b3) fun (r2 : Bool) =>
        (bif r2 then
          (Option.bind (s_l22Keys_m N keys) fun (r3 : Bool) =>
            (bif r3 then
              (Option.bind (s_l22Less_m N a a2 a3 b b2 b3 keys) fun (r4 : Bool) =>
                (some r4))
              else
              (some false)))
          else
          (some false)))
      else
      (some false)))
def s_SortLess_M (N : Nat) : Model := ⟨s_SortLess_arg, s_SortLess_ret, fun a => s_SortLess_m N a.1 a.2.1 a.2.2.1 a.2.2.2.1 a.2.2.2.2.1 a.2.2.2.2.2.1 a.2.2.2.2.2.2⟩
set_option maxRecDepth 1000000 in
theorem s_SortLess_ok (N : Nat) : ModelOk Try.prog 12 (s_SortLess_M N) :=
  modelOk_of (E := mkEnv [(41, s_l6Ok_M N), (42, s_l22Keys_M N), (43, s_l22Less_M N)] [] []) (mkEnv_ok (fnsOk_cons (s_l6Ok_ok N) (fnsOk_cons (s_l22Keys_ok N) (fnsOk_cons (s_l22Less_ok N) fnsOk_nil))) _ _) Try.func12 (by kernel_rfl) rfl N s_SortLess_h (s_SortLess_M N) (by kernel_rfl) (by kernel_rfl) (fun a => by kernel_rfl)
/-! loop.example/fossick/impl.within -/
def i_within_arg : Sh := ⟨[.pv (.int .i64), .pv (.int .i64), .pv (.int .i64)], []⟩
def i_within_ret : Sh := ⟨[.pv .bool], []⟩
def i_within_h : Hint := .no
def i_within_m (N : Nat) (n : Int) (low : Int) (high : Int) : Option (Bool) :=
  (bif (decide (low ≤ n)) then
    (some (decide (n ≤ high)))
    else
    (some false))
def i_within_M (N : Nat) : Model := ⟨i_within_arg, i_within_ret, fun a => i_within_m N a.1 a.2.1 a.2.2⟩
set_option maxRecDepth 1000000 in
theorem i_within_ok (N : Nat) : ModelOk Try.prog 55 (i_within_M N) :=
  modelOk_of (E := mkEnv [] [] []) (mkEnv_ok fnsOk_nil _ _) Try.func55 (by kernel_rfl) rfl N i_within_h (i_within_M N) (by kernel_rfl) (by kernel_rfl) (fun a => by kernel_rfl)
/-! loop.example/fossick/impl.wordByte -/
def i_wordByte_arg : Sh := ⟨[.pv (.int .u8)], []⟩
def i_wordByte_ret : Sh := ⟨[.pv .bool], []⟩
def i_wordByte_h : Hint := .no
def i_wordByte_m (N : Nat) (b : Int) : Option (Bool) :=
  (bif (decide ((97 : Int) ≤ b)) then
    (bif (decide (b ≤ 122)) then
      (some true)
      else
      (bif (decide ((48 : Int) ≤ b)) then
        (some (decide (b ≤ 57)))
        else
        (some false)))
    else
    (bif (decide ((48 : Int) ≤ b)) then
      (some (decide (b ≤ 57)))
      else
      (some false)))
def i_wordByte_M (N : Nat) : Model := ⟨i_wordByte_arg, i_wordByte_ret, fun a => i_wordByte_m N a⟩
set_option maxRecDepth 1000000 in
theorem i_wordByte_ok (N : Nat) : ModelOk Try.prog 83 (i_wordByte_M N) :=
  modelOk_of (E := mkEnv [] [] []) (mkEnv_ok fnsOk_nil _ _) Try.func83 (by kernel_rfl) rfl N i_wordByte_h (i_wordByte_M N) (by kernel_rfl) (by kernel_rfl) (fun a => by kernel_rfl)
/-! loop.example/fossick/impl.WordOk -/
def i_WordOk_arg : Sh := ⟨[.pv .str], []⟩
def i_WordOk_ret : Sh := ⟨[.pv .bool], []⟩
def i_WordOk_s1 : Sh := ⟨[.pv .str, .dead, .dead, .dead, .dead, .pv (.int .i64), .pv (.int .i64), .dead, .dead, .dead, .dead, .dead, .dead, .dead, .dead, .dead, .dead, .dead], []⟩
def i_WordOk_h : Hint := (.seq .no (.seq (.seq .no (.block (.loop i_WordOk_s1 .no))) .no))
def i_WordOk_m (N : Nat) (s : List UInt8) : Option (Bool) :=
  (iter (fun (go : ((List UInt8) × Int × Int) → Option Bool) (g : (List UInt8) × Int × Int) => 
      match g with
      | (s2, t5, t6) =>
      (bif (decide (t6 < t5)) then
        (Option.bind (idx s2 t6) fun (c : UInt8) =>
          (Option.bind (i_wordByte_m N (c.toNat : Int)) fun (r : Bool) =>
            (bif (!r) then
              (some false)
              else
              (if fits (t6 + 1) then (go (s2, t5, (t6 + 1))) else none))))
        else
        (Option.bind (i_within_m N (s2.length : Int) 1 12) fun (r2 : Bool) =>
          (some r2)))) N (s, (s.length : Int), 0))
def i_WordOk_M (N : Nat) : Model := ⟨i_WordOk_arg, i_WordOk_ret, fun a => i_WordOk_m N a⟩
set_option maxRecDepth 1000000 in
theorem i_WordOk_ok (N : Nat) : ModelOk Try.prog 56 (i_WordOk_M N) :=
  modelOk_of (E := mkEnv [(83, i_wordByte_M N), (55, i_within_M N)] [] []) (mkEnv_ok (fnsOk_cons (i_wordByte_ok N) (fnsOk_cons (i_within_ok N) fnsOk_nil)) _ _) Try.func56 (by kernel_rfl) rfl N i_WordOk_h (i_WordOk_M N) (by kernel_rfl) (by kernel_rfl) (fun a => by kernel_rfl)
/-! loop.example/fossick/impl.TextOk -/
def i_TextOk_arg : Sh := ⟨[.pv .str], []⟩
def i_TextOk_ret : Sh := ⟨[.pv .bool], []⟩
def i_TextOk_s1 : Sh := ⟨[.pv .str, .dead, .dead, .dead, .dead, .pv (.int .i64), .pv (.int .i64), .dead, .dead, .dead, .dead, .dead, .dead, .dead, .dead, .dead, .dead, .dead, .dead, .dead, .dead, .dead, .dead], []⟩
def i_TextOk_h : Hint := (.seq .no (.seq (.seq .no (.block (.loop i_TextOk_s1 .no))) .no))
def i_TextOk_m (N : Nat) (s : List UInt8) : Option (Bool) :=
  (iter (fun (go : ((List UInt8) × Int × Int) → Option Bool) (g : (List UInt8) × Int × Int) => 
      match g with
      | (s2, t5, t6) =>
      (bif (decide (t6 < t5)) then
        (Option.bind (idx s2 t6) fun (c : UInt8) =>
          (bif (decide ((c.toNat : Int) < 32)) then
            (some false)
            else
            (Option.bind (idx s2 t6) fun (c2 : UInt8) =>
              (bif (decide ((126 : Int) < (c2.toNat : Int))) then
                (some false)
                else
                (if fits (t6 + 1) then (go (s2, t5, (t6 + 1))) else none)))))
        else
        (some (decide ((s2.length : Int) ≤ 160))))) N (s, (s.length : Int), 0))
def i_TextOk_M (N : Nat) : Model := ⟨i_TextOk_arg, i_TextOk_ret, fun a => i_TextOk_m N a⟩
set_option maxRecDepth 1000000 in
theorem i_TextOk_ok (N : Nat) : ModelOk Try.prog 57 (i_TextOk_M N) :=
  modelOk_of (E := mkEnv [] [] []) (mkEnv_ok fnsOk_nil _ _) Try.func57 (by kernel_rfl) rfl N i_TextOk_h (i_TextOk_M N) (by kernel_rfl) (by kernel_rfl) (fun a => by kernel_rfl)
/-! loop.example/fossick/impl.DocOk -/
def i_DocOk_arg : Sh := ⟨[.agg [.pv (.int .i64), .pv (.sl (.pair .str .str)), .pv (.sl (.pair .str (.int .i64)))]], []⟩
def i_DocOk_ret : Sh := ⟨[.pv .bool], []⟩
def i_DocOk_s1 : Sh := ⟨[.dead, .box 1 0, .dead, .dead, .dead, .dead, .dead, .dead, .dead, .dead, .dead, .dead, .dead, .dead, .dead, .dead, .dead, .dead, .dead, .dead, .dead, .dead, .dead, .dead, .pv (.sl (.pair .str .str)), .pv (.int .i64), .pv (.int .i64), .dead, .dead, .dead, .dead, .dead, .dead, .dead, .dead, .dead, .dead, .dead, .dead, .dead, .dead, .dead, .dead, .dead, .dead, .dead, .dead, .dead, .dead, .dead, .dead, .dead, .dead, .dead, .dead, .dead, .dead, .dead, .dead, .dead, .dead, .dead, .dead, .dead, .dead, .dead, .dead, .dead, .dead, .dead, .dead, .dead, .dead, .dead, .dead, .dead, .dead, .dead, .dead, .dead, .dead, .dead, .dead, .dead, .dead, .dead, .dead, .dead, .dead, .dead, .dead, .dead, .dead], [(1, false, [.pv (.int .i64), .pv (.sl (.pair .str .str)), .pv (.sl (.pair .str (.int .i64)))])]⟩
def i_DocOk_s2 : Sh := ⟨[.dead, .box 1 0, .dead, .dead, .dead, .dead, .dead, .dead, .dead, .dead, .dead, .dead, .dead, .dead, .dead, .dead, .dead, .dead, .dead, .dead, .dead, .dead, .dead, .dead, .dead, .dead, .dead, .dead, .dead, .dead, .dead, .dead, .dead, .dead, .dead, .dead, .dead, .dead, .dead, .dead, .dead, .dead, .dead, .dead, .dead, .dead, .dead, .dead, .dead, .dead, .dead, .dead, .dead, .dead, .dead, .dead, .dead, .dead, .dead, .pv (.sl (.pair .str (.int .i64))), .pv (.int .i64), .pv (.int .i64), .dead, .dead, .dead, .dead, .dead, .dead, .dead, .dead, .dead, .dead, .dead, .dead, .dead, .dead, .dead, .dead, .dead, .dead, .dead, .dead, .dead, .dead, .dead, .dead, .dead, .dead, .dead, .dead, .dead, .dead, .dead], [(1, false, [.pv (.int .i64), .pv (.sl (.pair .str .str)), .pv (.sl (.pair .str (.int .i64)))])]⟩
def i_DocOk_h : Hint := (.seq .no (.seq .no (.seq (.seq .no (.block (.loop i_DocOk_s1 .no))) (.seq (.seq .no (.block (.loop i_DocOk_s2 .no))) .no))))
def i_DocOk_m (N : Nat) (d : Int) (d2 : List ((List UInt8) × (List UInt8))) (d3 : List ((List UInt8) × Int)) : Option (Bool) :=
  (Option.bind (i_within_m N d 1 9999) fun (r : Bool) =>
    (bif (!r) then
      (some false)
      else
      (bif (decide ((3 : Int) < (d2.length : Int))) then
        (some false)
        else
        (bif (decide ((3 : Int) < (d3.length : Int))) then
          (some false)
          else
          (iter (fun (go : ((List ((List UInt8) × (List UInt8))) × Int × Int × Int × (List ((List UInt8) × (List UInt8))) × (List ((List UInt8) × Int))) → Option Bool) (g : (List ((List UInt8) × (List UInt8))) × Int × Int × Int × (List ((List UInt8) × (List UInt8))) × (List ((List UInt8) × Int))) => 
              match g with
              | (t24, t25, t26, d4, d5, d6) =>
              (bif (decide (t26 < t25)) then
                (Option.bind (idx t24 t26) fun (e : (List UInt8) × (List UInt8)) =>
                  (Option.bind (i_WordOk_m N e.1) fun (r2 : Bool) =>
                    (bif (!r2) then
                      (some false)
                      else
                      (Option.bind (i_TextOk_m N e.2) fun (r3 : Bool) =>
                        (bif (!r3) then
                          (some false)
                          else
                          (bif (decide ((0 : Int) < t26)) then
                            (if fits (t26 - 1) then (Option.bind (idx d5 (t26 - 1)) fun (e2 : (List UInt8) × (List UInt8)) =>
                                (bif (!Op.bytesLess e2.1 e.1) then
                                  (some false)
                                  else
                                  (if fits (t26 + 1) then (go (t24, t25, (t26 + 1), d4, d5, d6)) else none))) else none)
                            else
                            (if fits (t26 + 1) then (go (t24, t25, (t26 + 1), d4, d5, d6)) else none)))))))
                else
                (iter (fun (go2 : ((List ((List UInt8) × Int)) × Int × Int × Int × (List ((List UInt8) × (List UInt8))) × (List ((List UInt8) × Int))) → Option Bool) (g : (List ((List UInt8) × Int)) × Int × Int × Int × (List ((List UInt8) × (List UInt8))) × (List ((List UInt8) × Int))) => 
                    match g with
                    | (t59, t60, t61, d7, d8, d9) =>
                    (bif (decide (t61 < t60)) then
                      (Option.bind (idx t59 t61) fun (e3 : (List UInt8) × Int) =>
                        (Option.bind (i_WordOk_m N e3.1) fun (r4 : Bool) =>
                          (bif (!r4) then
                            (some false)
                            else
                            (Option.bind (i_within_m N e3.2 0 999999999) fun (r5 : Bool) =>
                              (bif (!r5) then
                                (some false)
                                else
                                (bif (decide ((0 : Int) < t61)) then
                                  (if fits (t61 - 1) then (Option.bind (idx d9 (t61 - 1)) fun (e4 : (List UInt8) × Int) =>
                                      (bif (!Op.bytesLess e4.1 e3.1) then
                                        (some false)
                                        else
                                        (if fits (t61 + 1) then (go2 (t59, t60, (t61 + 1), d7, d8, d9)) else none))) else none)
                                  else
                                  (if fits (t61 + 1) then (go2 (t59, t60, (t61 + 1), d7, d8, d9)) else none)))))))
                      else
                      (some true))) N (d6, (d6.length : Int), 0, d4, d5, d6)))) N (d2, (d2.length : Int), 0, d, d2, d3))))))
def i_DocOk_M (N : Nat) : Model := ⟨i_DocOk_arg, i_DocOk_ret, fun a => i_DocOk_m N a.1 a.2.1 a.2.2⟩
set_option maxRecDepth 1000000 in
theorem i_DocOk_ok (N : Nat) : ModelOk Try.prog 19 (i_DocOk_M N) :=
  modelOk_of (E := mkEnv [(55, i_within_M N), (56, i_WordOk_M N), (57, i_TextOk_M N)] [] []) (mkEnv_ok (fnsOk_cons (i_within_ok N) (fnsOk_cons (i_WordOk_ok N) (fnsOk_cons (i_TextOk_ok N) fnsOk_nil))) _ _) Try.func19 (by kernel_rfl) rfl N i_DocOk_h (i_DocOk_M N) (by kernel_rfl) (by kernel_rfl) (fun a => by kernel_rfl)
/-! loop.example/fossick/impl.keysOk -/
def i_keysOk_arg : Sh := ⟨[.pv (.sl (.pair .str .bool))], []⟩
def i_keysOk_ret : Sh := ⟨[.pv .bool], []⟩
def i_keysOk_s1 : Sh := ⟨[.pv (.sl (.pair .str .bool)), .dead, .dead, .dead, .dead, .pv (.sl (.pair .str .bool)), .pv (.int .i64), .pv (.int .i64), .dead, .dead, .dead, .dead, .dead, .dead, .dead, .dead, .dead, .dead, .dead], []⟩
def i_keysOk_h : Hint := (.seq .no (.seq (.seq .no (.block (.loop i_keysOk_s1 .no))) .no))
def i_keysOk_m (N : Nat) (keys : List ((List UInt8) × Bool)) : Option (Bool) :=
  (iter (fun (go : ((List ((List UInt8) × Bool)) × (List ((List UInt8) × Bool)) × Int × Int) → Option Bool) (g : (List ((List UInt8) × Bool)) × (List ((List UInt8) × Bool)) × Int × Int) => 
      match g with
      | (keys2, t5, t6, t7) =>
      (bif (decide (t7 < t6)) then
        (Option.bind (idx t5 t7) fun (e : (List UInt8) × Bool) =>
          (Option.bind (i_WordOk_m N e.1) fun (r : Bool) =>
            (bif (!r) then
              (some false)
              else
              (if fits (t7 + 1) then (go (keys2, t5, t6, (t7 + 1))) else none))))
        else
        (some (decide ((keys2.length : Int) ≤ 3))))) N (keys, keys, (keys.length : Int), 0))
def i_keysOk_M (N : Nat) : Model := ⟨i_keysOk_arg, i_keysOk_ret, fun a => i_keysOk_m N a⟩
set_option maxRecDepth 1000000 in
theorem i_keysOk_ok (N : Nat) : ModelOk Try.prog 47 (i_keysOk_M N) :=
  modelOk_of (E := mkEnv [(56, i_WordOk_M N)] [] []) (mkEnv_ok (fnsOk_cons (i_WordOk_ok N) fnsOk_nil) _ _) Try.func47 (by kernel_rfl) rfl N i_keysOk_h (i_keysOk_M N) (by kernel_rfl) (by kernel_rfl) (fun a => by kernel_rfl)
/-! loop.example/fossick/impl.DocNum -/
def i_DocNum_arg : Sh := ⟨[.agg [.pv (.int .i64), .pv (.sl (.pair .str .str)), .pv (.sl (.pair .str (.int .i64)))], .pv .str], []⟩
def i_DocNum_ret : Sh := ⟨[.pv (.int .i64)], []⟩
def i_DocNum_s1 : Sh := ⟨[.dead, .pv .str, .dead, .dead, .dead, .dead, .dead, .dead, .dead, .dead, .pv (.sl (.pair .str (.int .i64))), .pv (.int .i64), .pv (.int .i64), .dead, .dead, .dead, .dead, .dead, .dead, .dead, .dead, .dead, .dead], []⟩
def i_DocNum_h : Hint := (.seq .no (.seq (.seq .no (.cond (.seq .no (.block (.loop i_DocNum_s1 .no))) .no)) .no))
def i_DocNum_m (N : Nat) (d : Int) (d2 : List ((List UInt8) × (List UInt8))) (d3 : List ((List UInt8) × Int)) (name : List UInt8) : Option (Int) :=
  (Option.bind (i_DocOk_m N d d2 d3) fun (r : Bool) =>
    (bif r then
      (iter (fun (go : ((List UInt8) × (List ((List UInt8) × Int)) × Int × Int) → Option Int) (g : (List UInt8) × (List ((List UInt8) × Int)) × Int × Int) => 
          match g with
          | (name2, t10, t11, t12) =>
          (bif (decide (t12 < t11)) then
            (Option.bind (idx t10 t12) fun (e : (List UInt8) × Int) =>
              (bif (decide (e.1 = name2)) then
                (some e.2)
                else
                (if fits (t12 + 1) then (go (name2, t10, t11, (t12 + 1))) else none)))
            else
            (some (-1)))) N (name, d3, (d3.length : Int), 0))
      else
      (some (-1))))
def i_DocNum_M (N : Nat) : Model := ⟨i_DocNum_arg, i_DocNum_ret, fun a => i_DocNum_m N a.1 a.2.1 a.2.2.1 a.2.2.2⟩
set_option maxRecDepth 1000000 in
theorem i_DocNum_ok (N : Nat) : ModelOk Try.prog 76 (i_DocNum_M N) :=
  modelOk_of (E := mkEnv [(19, i_DocOk_M N)] [] []) (mkEnv_ok (fnsOk_cons (i_DocOk_ok N) fnsOk_nil) _ _) Try.func76 (by kernel_rfl) rfl N i_DocNum_h (i_DocNum_M N) (by kernel_rfl) (by kernel_rfl) (fun a => by kernel_rfl)
/-! loop.example/fossick/impl.docOrder -/
def i_docOrder_arg : Sh := ⟨[.agg [.pv (.int .i64), .pv (.sl (.pair .str .str)), .pv (.sl (.pair .str (.int .i64)))], .agg [.pv (.int .i64), .pv (.sl (.pair .str .str)), .pv (.sl (.pair .str (.int .i64)))], .pv (.sl (.pair .str .bool))], []⟩
def i_docOrder_ret : Sh := ⟨[.pv (.int .i64)], []⟩
def i_docOrder_s1 : Sh := ⟨[.dead, .dead, .dead, .box 3 0, .box 4 0, .dead, .dead, .dead, .dead, .dead, .dead, .pv (.sl (.pair .str .bool)), .pv (.int .i64), .pv (.int .i64), .dead, .dead, .dead, .dead, .dead, .dead, .dead, .dead, .dead, .dead, .dead, .dead, .dead, .dead, .dead, .dead, .dead, .dead, .dead, .dead, .dead, .dead, .dead, .dead, .dead, .dead, .dead, .dead, .dead, .dead, .dead, .dead, .dead, .dead, .dead], [(3, false, [.pv (.int .i64), .pv (.sl (.pair .str .str)), .pv (.sl (.pair .str (.int .i64)))]), (4, false, [.pv (.int .i64), .pv (.sl (.pair .str .str)), .pv (.sl (.pair .str (.int .i64)))])]⟩
def i_docOrder_h : Hint := (.seq .no (.seq (.seq .no (.block (.loop i_docOrder_s1 .no))) .no))
def i_docOrder_m (N : Nat) (a : Int) (a2 : List ((List UInt8) × (List UInt8))) (a3 : List ((List UInt8) × Int)) (b : Int) (b2 : List ((List UInt8) × (List UInt8))) (b3 : List ((List UInt8) × Int)) (keys : List ((List UInt8) × Bool)) : Option (Int) :=
  (iter (fun (go : ((List ((List UInt8) × Bool)) × Int × Int × Int × (List ((List UInt8) × (List UInt8))) × (List ((List UInt8) × Int)) × Int × (List ((List UInt8) × (List UInt8))) × (List ((List UInt8) × Int))) → Option Int) (g : (List ((List UInt8) × Bool)) × Int × Int × Int × (List ((List UInt8) × (List UInt8))) × (List ((List UInt8) × Int)) × Int × (List ((List UInt8) × (List UInt8))) × (List ((List UInt8) × Int))) => 
      match g with
      | (t11, t12, t13, a4, a5, a6, b4, b5, b6) =>
      (bif (decide (t13 < t12)) then
        (Option.bind (idx t11 t13) fun (e : (List UInt8) × Bool) =>
          (Option.bind (i_DocNum_m N a4 a5 a6 e.1) fun (r : Int) =>
            (Option.bind (i_DocNum_m N b4 b5 b6 e.1) fun (r2 : Int) =>
              (bif (decide (r = r2)) then
                (if fits (t13 + 1) then (go (t11, t12, (t13 + 1), a4, a5, a6, b4, b5, b6)) else none)
                else
                (bif (decide (r = (-1))) then
                  (some 1)
                  else
                  (bif (decide (r2 = (-1))) then
                    (some (-1))
                    else
                    (bif (!((decide (r < r2)) == e.2)) then
                      (some (-1))
                      else
                      (some 1))))))))
        else
        (if fits (a4 - b4) then (some (a4 - b4)) else none))) N (keys, (keys.length : Int), 0, a, a2, a3, b, b2, b3))
def i_docOrder_M (N : Nat) : Model := ⟨i_docOrder_arg, i_docOrder_ret, fun a => i_docOrder_m N a.1 a.2.1 a.2.2.1 a.2.2.2.1 a.2.2.2.2.1 a.2.2.2.2.2.1 a.2.2.2.2.2.2⟩
set_option maxRecDepth 1000000 in
theorem i_docOrder_ok (N : Nat) : ModelOk Try.prog 48 (i_docOrder_M N) :=
  modelOk_of (E := mkEnv [(76, i_DocNum_M N)] [] []) (mkEnv_ok (fnsOk_cons (i_DocNum_ok N) fnsOk_nil) _ _) Try.func48 (by kernel_rfl) rfl N i_docOrder_h (i_docOrder_M N) (by kernel_rfl) (by kernel_rfl) (fun a => by kernel_rfl)
/-! loop.example/fossick/impl.SortLess -/
def i_SortLess_arg : Sh := ⟨[.agg [.pv (.int .i64), .pv (.sl (.pair .str .str)), .pv (.sl (.pair .str (.int .i64)))], .agg [.pv (.int .i64), .pv (.sl (.pair .str .str)), .pv (.sl (.pair .str (.int .i64)))], .pv (.sl (.pair .str .bool))], []⟩
def i_SortLess_ret : Sh := ⟨[.pv .bool], []⟩
def i_SortLess_h : Hint := .no
def i_SortLess_m (N : Nat) (a : Int) (a2 : List ((List UInt8) × (List UInt8))) (a3 : List ((List UInt8) × Int)) (b : Int) (b2 : List ((List UInt8) × (List UInt8))) (b3 : List ((List UInt8) × Int)) (keys : List ((List UInt8) × Bool)) : Option (Bool) :=
  (Option.bind (i_DocOk_m N a a2 a3) fun (r : Bool) =>
    (bif r then
      (Option.bind (i_DocOk_m N b b2 b3) fun (r2 : Bool) =>
        (bif r2 then
          (Option.bind (i_keysOk_m N keys) fun (r3 : Bool) =>
            (bif r3 then
              (Option.bind (i_docOrder_m N a a2 a3 b b2 b3 keys) fun (r4 : Int) =>
                (some (decide (r4 < 0))))
              else
              (some false)))
          else
          (some false)))
      else
      (some false)))
def i_SortLess_M (N : Nat) : Model := ⟨i_SortLess_arg, i_SortLess_ret, fun a => i_SortLess_m N a.1 a.2.1 a.2.2.1 a.2.2.2.1 a.2.2.2.2.1 a.2.2.2.2.2.1 a.2.2.2.2.2.2⟩
set_option maxRecDepth 1000000 in
theorem i_SortLess_ok (N : Nat) : ModelOk Try.prog 15 (i_SortLess_M N) :=
  modelOk_of (E := mkEnv [(19, i_DocOk_M N), (47, i_keysOk_M N), (48, i_docOrder_M N)] [] []) (mkEnv_ok (fnsOk_cons (i_DocOk_ok N) (fnsOk_cons (i_keysOk_ok N) (fnsOk_cons (i_docOrder_ok N) fnsOk_nil))) _ _) Try.func15 (by kernel_rfl) rfl N i_SortLess_h (i_SortLess_M N) (by kernel_rfl) (by kernel_rfl) (fun a => by kernel_rfl)
/-! loop.example/fossick/laws.eqField -/
def l_eqField_arg : Sh := ⟨[.agg [.pv .str, .pv .str], .agg [.pv .str, .pv .str]], []⟩
def l_eqField_ret : Sh := ⟨[.pv .bool], []⟩
def l_eqField_h : Hint := .no
def l_eqField_m (N : Nat) (a : List UInt8) (a2 : List UInt8) (b : List UInt8) (b2 : List UInt8) : Option (Bool) :=
  (bif (!decide (a = b)) then
    (some false)
    else
    (bif (!decide (a2 = b2)) then
      (some false)
      else
      (some true)))
def l_eqField_M (N : Nat) : Model := ⟨l_eqField_arg, l_eqField_ret, fun a => l_eqField_m N a.1 a.2.1 a.2.2.1 a.2.2.2⟩
set_option maxRecDepth 1000000 in
theorem l_eqField_ok (N : Nat) : ModelOk Try.prog 77 (l_eqField_M N) :=
  modelOk_of (E := mkEnv [] [] []) (mkEnv_ok fnsOk_nil _ _) Try.func77 (by kernel_rfl) rfl N l_eqField_h (l_eqField_M N) (by kernel_rfl) (by kernel_rfl) (fun a => by kernel_rfl)
/-! loop.example/fossick/laws.eqFieldS -/
def l_eqFieldS_arg : Sh := ⟨[.pv (.sl (.pair .str .str)), .pv (.sl (.pair .str .str))], []⟩
def l_eqFieldS_ret : Sh := ⟨[.pv .bool], []⟩
def l_eqFieldS_s1 : Sh := ⟨[.pv (.sl (.pair .str .str)), .pv (.sl (.pair .str .str)), .dead, .dead, .dead, .pv (.int .i64), .dead, .dead, .dead, .dead, .dead, .dead, .dead, .dead, .dead, .dead, .dead, .dead, .dead, .dead, .dead, .dead, .dead, .dead, .dead, .dead, .dead], []⟩
def l_eqFieldS_h : Hint := (.seq .no (.seq .no (.seq (.seq .no (.block (.loop l_eqFieldS_s1 .no))) .no)))
def l_eqFieldS_m (N : Nat) (a : List ((List UInt8) × (List UInt8))) (b : List ((List UInt8) × (List UInt8))) : Option (Bool) :=
  (bif (!decide ((a.length : Int) = (b.length : Int))) then
    (some false)
    else
    (iter (fun (go : ((List ((List UInt8) × (List UInt8))) × (List ((List UInt8) × (List UInt8))) × Int) → Option Bool) (g : (List ((List UInt8) × (List UInt8))) × (List ((List UInt8) × (List UInt8))) × Int) => 
        match g with
        | (a2, b2, i) =>
        (bif (decide (i < (a2.length : Int))) then
          (Option.bind (idx a2 i) fun (e : (List UInt8) × (List UInt8)) =>
            (Option.bind (idx b2 i) fun (e2 : (List UInt8) × (List UInt8)) =>
              (Option.bind (l_eqField_m N e.1 e.2 e2.1 e2.2) fun (r : Bool) =>
                (bif (!r) then
                  (some false)
                  else
                  (if fits (i + 1) then (go (a2, b2, (i + 1))) else none)))))
          else
          (some true))) N (a, b, 0)))
def l_eqFieldS_M (N : Nat) : Model := ⟨l_eqFieldS_arg, l_eqFieldS_ret, fun a => l_eqFieldS_m N a.1 a.2⟩
set_option maxRecDepth 1000000 in
theorem l_eqFieldS_ok (N : Nat) : ModelOk Try.prog 49 (l_eqFieldS_M N) :=
  modelOk_of (E := mkEnv [(77, l_eqField_M N)] [] []) (mkEnv_ok (fnsOk_cons (l_eqField_ok N) fnsOk_nil) _ _) Try.func49 (by kernel_rfl) rfl N l_eqFieldS_h (l_eqFieldS_M N) (by kernel_rfl) (by kernel_rfl) (fun a => by kernel_rfl)
/-! loop.example/fossick/laws.eqAttr -/
def l_eqAttr_arg : Sh := ⟨[.agg [.pv .str, .pv (.int .i64)], .agg [.pv .str, .pv (.int .i64)]], []⟩
def l_eqAttr_ret : Sh := ⟨[.pv .bool], []⟩
def l_eqAttr_h : Hint := .no
def l_eqAttr_m (N : Nat) (a : List UInt8) (a2 : Int) (b : List UInt8) (b2 : Int) : Option (Bool) :=
  (bif (!decide (a = b)) then
    (some false)
    else
    (bif (!decide (a2 = b2)) then
      (some false)
      else
      (some true)))
def l_eqAttr_M (N : Nat) : Model := ⟨l_eqAttr_arg, l_eqAttr_ret, fun a => l_eqAttr_m N a.1 a.2.1 a.2.2.1 a.2.2.2⟩
set_option maxRecDepth 1000000 in
theorem l_eqAttr_ok (N : Nat) : ModelOk Try.prog 78 (l_eqAttr_M N) :=
  modelOk_of (E := mkEnv [] [] []) (mkEnv_ok fnsOk_nil _ _) Try.func78 (by kernel_rfl) rfl N l_eqAttr_h (l_eqAttr_M N) (by kernel_rfl) (by kernel_rfl) (fun a => by kernel_rfl)
/-! loop.example/fossick/laws.eqAttrS -/
def l_eqAttrS_arg : Sh := ⟨[.pv (.sl (.pair .str (.int .i64))), .pv (.sl (.pair .str (.int .i64)))], []⟩
def l_eqAttrS_ret : Sh := ⟨[.pv .bool], []⟩
def l_eqAttrS_s1 : Sh := ⟨[.pv (.sl (.pair .str (.int .i64))), .pv (.sl (.pair .str (.int .i64))), .dead, .dead, .dead, .pv (.int .i64), .dead, .dead, .dead, .dead, .dead, .dead, .dead, .dead, .dead, .dead, .dead, .dead, .dead, .dead, .dead, .dead, .dead, .dead, .dead, .dead, .dead], []⟩
def l_eqAttrS_h : Hint := (.seq .no (.seq .no (.seq (.seq .no (.block (.loop l_eqAttrS_s1 .no))) .no)))
def l_eqAttrS_m (N : Nat) (a : List ((List UInt8) × Int)) (b : List ((List UInt8) × Int)) : Option (Bool) :=
  (bif (!decide ((a.length : Int) = (b.length : Int))) then
    (some false)
    else
    (iter (fun (go : ((List ((List UInt8) × Int)) × (List ((List UInt8) × Int)) × Int) → Option Bool) (g : (List ((List UInt8) × Int)) × (List ((List UInt8) × Int)) × Int) => 
        match g with
        | (a2, b2, i) =>
        (bif (decide (i < (a2.length : Int))) then
          (Option.bind (idx a2 i) fun (e : (List UInt8) × Int) =>
            (Option.bind (idx b2 i) fun (e2 : (List UInt8) × Int) =>
              (Option.bind (l_eqAttr_m N e.1 e.2 e2.1 e2.2) fun (r : Bool) =>
                (bif (!r) then
                  (some false)
                  else
                  (if fits (i + 1) then (go (a2, b2, (i + 1))) else none)))))
          else
          (some true))) N (a, b, 0)))
def l_eqAttrS_M (N : Nat) : Model := ⟨l_eqAttrS_arg, l_eqAttrS_ret, fun a => l_eqAttrS_m N a.1 a.2⟩
set_option maxRecDepth 1000000 in
theorem l_eqAttrS_ok (N : Nat) : ModelOk Try.prog 50 (l_eqAttrS_M N) :=
  modelOk_of (E := mkEnv [(78, l_eqAttr_M N)] [] []) (mkEnv_ok (fnsOk_cons (l_eqAttr_ok N) fnsOk_nil) _ _) Try.func50 (by kernel_rfl) rfl N l_eqAttrS_h (l_eqAttrS_M N) (by kernel_rfl) (by kernel_rfl) (fun a => by kernel_rfl)
/-! loop.example/fossick/laws.eqDoc -/
def l_eqDoc_arg : Sh := ⟨[.agg [.pv (.int .i64), .pv (.sl (.pair .str .str)), .pv (.sl (.pair .str (.int .i64)))], .agg [.pv (.int .i64), .pv (.sl (.pair .str .str)), .pv (.sl (.pair .str (.int .i64)))]], []⟩
def l_eqDoc_ret : Sh := ⟨[.pv .bool], []⟩
def l_eqDoc_h : Hint := .no
def l_eqDoc_m (N : Nat) (a : Int) (a2 : List ((List UInt8) × (List UInt8))) (a3 : List ((List UInt8) × Int)) (b : Int) (b2 : List ((List UInt8) × (List UInt8))) (b3 : List ((List UInt8) × Int)) : Option (Bool) :=
  (bif (!decide (a = b)) then
    (some false)
    else
    (Option.bind (l_eqFieldS_m N a2 b2) fun (r : Bool) =>
      (bif (!r) then
        (some false)
        else
        (Option.bind (l_eqAttrS_m N a3 b3) fun (r2 : Bool) =>
          (bif (!r2) then
            (some false)
            else
            (some true))))))
def l_eqDoc_M (N : Nat) : Model := ⟨l_eqDoc_arg, l_eqDoc_ret, fun a => l_eqDoc_m N a.1 a.2.1 a.2.2.1 a.2.2.2.1 a.2.2.2.2.1 a.2.2.2.2.2⟩
set_option maxRecDepth 1000000 in
theorem l_eqDoc_ok (N : Nat) : ModelOk Try.prog 16 (l_eqDoc_M N) :=
  modelOk_of (E := mkEnv [(49, l_eqFieldS_M N), (50, l_eqAttrS_M N)] [] []) (mkEnv_ok (fnsOk_cons (l_eqFieldS_ok N) (fnsOk_cons (l_eqAttrS_ok N) fnsOk_nil)) _ _) Try.func16 (by kernel_rfl) rfl N l_eqDoc_h (l_eqDoc_M N) (by kernel_rfl) (by kernel_rfl) (fun a => by kernel_rfl)
/-! loop.example/fossick/laws.eqKey -/
def l_eqKey_arg : Sh := ⟨[.agg [.pv .str, .pv .bool], .agg [.pv .str, .pv .bool]], []⟩
def l_eqKey_ret : Sh := ⟨[.pv .bool], []⟩
def l_eqKey_h : Hint := .no
def l_eqKey_m (N : Nat) (a : List UInt8) (a2 : Bool) (b : List UInt8) (b2 : Bool) : Option (Bool) :=
  (bif (!decide (a = b)) then
    (some false)
    else
    (bif (!(a2 == b2)) then
      (some false)
      else
      (some true)))
def l_eqKey_M (N : Nat) : Model := ⟨l_eqKey_arg, l_eqKey_ret, fun a => l_eqKey_m N a.1 a.2.1 a.2.2.1 a.2.2.2⟩
set_option maxRecDepth 1000000 in
theorem l_eqKey_ok (N : Nat) : ModelOk Try.prog 51 (l_eqKey_M N) :=
  modelOk_of (E := mkEnv [] [] []) (mkEnv_ok fnsOk_nil _ _) Try.func51 (by kernel_rfl) rfl N l_eqKey_h (l_eqKey_M N) (by kernel_rfl) (by kernel_rfl) (fun a => by kernel_rfl)
/-! loop.example/fossick/laws.eqKeyS -/
def l_eqKeyS_arg : Sh := ⟨[.pv (.sl (.pair .str .bool)), .pv (.sl (.pair .str .bool))], []⟩
def l_eqKeyS_ret : Sh := ⟨[.pv .bool], []⟩
def l_eqKeyS_s1 : Sh := ⟨[.pv (.sl (.pair .str .bool)), .pv (.sl (.pair .str .bool)), .dead, .dead, .dead, .pv (.int .i64), .dead, .dead, .dead, .dead, .dead, .dead, .dead, .dead, .dead, .dead, .dead, .dead, .dead, .dead, .dead, .dead, .dead, .dead, .dead, .dead, .dead], []⟩
def l_eqKeyS_h : Hint := (.seq .no (.seq .no (.seq (.seq .no (.block (.loop l_eqKeyS_s1 .no))) .no)))
def l_eqKeyS_m (N : Nat) (a : List ((List UInt8) × Bool)) (b : List ((List UInt8) × Bool)) : Option (Bool) :=
  (bif (!decide ((a.length : Int) = (b.length : Int))) then
    (some false)
    else
    (iter (fun (go : ((List ((List UInt8) × Bool)) × (List ((List UInt8) × Bool)) × Int) → Option Bool) (g : (List ((List UInt8) × Bool)) × (List ((List UInt8) × Bool)) × Int) => 
        match g with
        | (a2, b2, i) =>
        (bif (decide (i < (a2.length : Int))) then
          (Option.bind (idx a2 i) fun (e : (List UInt8) × Bool) =>
            (Option.bind (idx b2 i) fun (e2 : (List UInt8) × Bool) =>
              (Option.bind (l_eqKey_m N e.1 e.2 e2.1 e2.2) fun (r : Bool) =>
                (bif (!r) then
                  (some false)
                  else
                  (if fits (i + 1) then (go (a2, b2, (i + 1))) else none)))))
          else
          (some true))) N (a, b, 0)))
def l_eqKeyS_M (N : Nat) : Model := ⟨l_eqKeyS_arg, l_eqKeyS_ret, fun a => l_eqKeyS_m N a.1 a.2⟩
set_option maxRecDepth 1000000 in
theorem l_eqKeyS_ok (N : Nat) : ModelOk Try.prog 17 (l_eqKeyS_M N) :=
  modelOk_of (E := mkEnv [(51, l_eqKey_M N)] [] []) (mkEnv_ok (fnsOk_cons (l_eqKey_ok N) fnsOk_nil) _ _) Try.func17 (by kernel_rfl) rfl N l_eqKeyS_h (l_eqKeyS_M N) (by kernel_rfl) (by kernel_rfl) (fun a => by kernel_rfl)
/-! loop.example/fossick/laws.FnExactSortLess -/
def l_FnExactSortLess_arg : Sh := ⟨[.agg [.pv (.int .i64), .pv (.sl (.pair .str .str)), .pv (.sl (.pair .str (.int .i64)))], .agg [.pv (.int .i64), .pv (.sl (.pair .str .str)), .pv (.sl (.pair .str (.int .i64)))], .pv (.sl (.pair .str .bool))], []⟩
def l_FnExactSortLess_ret : Sh := ⟨[.pv .bool], []⟩
def l_FnExactSortLess_h : Hint := .no
def l_FnExactSortLess_m (N : Nat) (aA : Int) (aA2 : List ((List UInt8) × (List UInt8))) (aA3 : List ((List UInt8) × Int)) (aB : Int) (aB2 : List ((List UInt8) × (List UInt8))) (aB3 : List ((List UInt8) × Int)) (aKeys : List ((List UInt8) × Bool)) : Option (Bool) :=
  (Option.bind (l_szDoc_m N aA aA2 aA3 1048576) fun (r : Int) =>
    (bif (decide (r < 0)) then
      (some true)
      else
      (Option.bind (l_szDoc_m N aB aB2 aB3 r) fun (r2 : Int) =>
        (bif (decide (r2 < 0)) then
          (some true)
          else
          (Option.bind (l_szKeyS_m N aKeys r2) fun (r3 : Int) =>
            (bif (decide (r3 < 0)) then
              (some true)
              else
              (Option.bind (l_toDoc_m N aA aA2 aA3) fun (r4 : Int × (List ((List UInt8) × (List UInt8))) × (List ((List UInt8) × Int))) =>
                (Option.bind (l_toDoc_m N aB aB2 aB3) fun (r5 : Int × (List ((List UInt8) × (List UInt8))) × (List ((List UInt8) × Int))) =>
                  (Option.bind (l_toKeyS_m N aKeys) fun (r6 : (List ((List UInt8) × Bool))) =>
                    (Option.bind (s_SortLess_m N r4.1 r4.2.1 r4.2.2 r5.1 r5.2.1 r5.2.2 r6) fun (r7 : Bool) =>
                      (Option.bind (l_toDoc_m N aA aA2 aA3) fun (r8 : Int × (List ((List UInt8) × (List UInt8))) × (List ((List UInt8) × Int))) =>
                        (Option.bind (l_toDoc_m N aB aB2 aB3) fun (r9 : Int × (List ((List UInt8) × (List UInt8))) × (List ((List UInt8) × Int))) =>
                          (Option.bind (l_toKeyS_m N aKeys) fun (r10 : (List ((List UInt8) × Bool))) =>
                            (Option.bind (i_SortLess_m N r8.1 r8.2.1 r8.2.2 r9.1 r9.2.1 r9.2.2 r10) fun (r11 : Bool) =>
                              (bif (!(r11 == r7)) then
                                (some false)
                                else
                                (Option.bind (l_toDoc_m N aA aA2 aA3) fun (r12 : Int × (List ((List UInt8) × (List UInt8))) × (List ((List UInt8) × Int))) =>
                                  (Option.bind (l_eqDoc_m N r8.1 r8.2.1 r8.2.2 r12.1 r12.2.1 r12.2.2) fun (r13 : Bool) =>
                                    (bif (!r13) then
                                      (some false)
                                      else
                                      (Option.bind (l_toDoc_m N aB aB2 aB3) fun (r14 : Int × (List ((List UInt8) × (List UInt8))) × (List ((List UInt8) × Int))) =>
                                        (Option.bind (l_eqDoc_m N r9.1 r9.2.1 r9.2.2 r14.1 r14.2.1 r14.2.2) fun (r15 : Bool) =>
                                          (bif (!r15) then
                                            (some false)
                                            else
                                            (Option.bind (l_toKeyS_m N aKeys) fun (r16 : (List ((List UInt8) × Bool))) =>
                                              (Option.bind (l_eqKeyS_m N r10 r16) fun (r17 : Bool) =>
                                                (bif (!r17) then
                                                  (some false)
                                                  else
                                                  (some true)))))))))))))))))))))))))
def l_FnExactSortLess_M (N : Nat) : Model := ⟨l_FnExactSortLess_arg, l_FnExactSortLess_ret, fun a => l_FnExactSortLess_m N a.1 a.2.1 a.2.2.1 a.2.2.2.1 a.2.2.2.2.1 a.2.2.2.2.2.1 a.2.2.2.2.2.2⟩
set_option maxRecDepth 1000000 in
theorem l_FnExactSortLess_ok (N : Nat) : ModelOk Try.prog 3 (l_FnExactSortLess_M N) :=
  modelOk_of (E := mkEnv [(10, l_szDoc_M N), (11, l_szKeyS_M N), (13, l_toDoc_M N), (14, l_toKeyS_M N), (12, s_SortLess_M N), (15, i_SortLess_M N), (16, l_eqDoc_M N), (17, l_eqKeyS_M N)] [] [] [29, 31, 33, 36, 38, 40, 44, 50, 51, 55, 56, 60, 61]) (mkEnv_ok (fnsOk_cons (l_szDoc_ok N) (fnsOk_cons (l_szKeyS_ok N) (fnsOk_cons (l_toDoc_ok N) (fnsOk_cons (l_toKeyS_ok N) (fnsOk_cons (s_SortLess_ok N) (fnsOk_cons (i_SortLess_ok N) (fnsOk_cons (l_eqDoc_ok N) (fnsOk_cons (l_eqKeyS_ok N) fnsOk_nil)))))))) _ _ _) Try.func3 (by kernel_rfl) rfl N l_FnExactSortLess_h (l_FnExactSortLess_M N) (by kernel_rfl) (by kernel_rfl) (fun a => by kernel_rfl)
/-! loop.example/fossick/spec.l30Open -/
def s_l30Open_arg : Sh := ⟨[.pv (.sl (.int .u8))], []⟩
def s_l30Open_ret : Sh := ⟨[.box 10 0], [(10, false, [.pv (.sl (.int .u8)), .pv (.int .i64)])]⟩
def s_l30Open_h : Hint := .no
def s_l30Open_m (N : Nat) (code : List Int) : Option ((List Int) × Int) :=
  (bif (decide ((2000 : Int) < (code.length : Int))) then
    (Option.bind (cut code 0 2000) fun (y : List Int) =>
      (some (y, 0)))
    else
    (some (code, 0)))
def s_l30Open_M (N : Nat) : Model := ⟨s_l30Open_arg, s_l30Open_ret, fun a => s_l30Open_m N a⟩
set_option maxRecDepth 1000000 in
theorem s_l30Open_ok (N : Nat) : ModelOk Try.prog 52 (s_l30Open_M N) :=
  modelOk_of (E := mkEnv [] [] []) (mkEnv_ok fnsOk_nil _ _) Try.func52 (by kernel_rfl) rfl N s_l30Open_h (s_l30Open_M N) (by kernel_rfl) (by kernel_rfl) (fun a => by kernel_rfl)
/-! (*loop.example/fossick/spec.l30Rd).pick -/
def s_l30Rd_pick_arg : Sh := ⟨[.box 900000 0, .pv (.int .i64)], [(900000, false, [.pv (.sl (.int .u8)), .pv (.int .i64)])]⟩
def s_l30Rd_pick_ret : Sh := ⟨[.pv (.int .i64)], [(900000, false, [.pv (.sl (.int .u8)), .pv (.int .i64)])]⟩
def s_l30Rd_pick_h : Hint := .no
def s_l30Rd_pick_m (N : Nat) (n : Int) (b : List Int) (b2 : Int) : Option (Int × (List Int) × Int) :=
  (if fits (b2 + 1) then (bif (decide (n < 1)) then
      (some (0, b, (b2 + 1)))
      else
      (bif (decide ((b.length : Int) = 0)) then
        (some (0, b, (b2 + 1)))
        else
        (if fits ((b2 + 1) - 1) then (bif (decide (((b2 + 1) - 1) < (b.length : Int))) then
            (Option.bind (idx b ((b2 + 1) - 1)) fun (e : Int) =>
              (if n ≠ 0 then
                (some (((IntKind.i64.wrap e).tmod n), b, (b2 + 1)))
                else none))
            else
            (if (b.length : Int) ≠ 0 then
              (Option.bind (idx b (((b2 + 1) - 1).tmod (b.length : Int))) fun (e2 : Int) =>
                (if fits ((IntKind.i64.wrap e2) * 131) then (if fits (((b2 + 1) - 1) * 7) then (if fits ((((b2 + 1) - 1) * 7) + 3) then (if (b.length : Int) ≠ 0 then
                        (Option.bind (idx b (((((b2 + 1) - 1) * 7) + 3).tmod (b.length : Int))) fun (e3 : Int) =>
                          (if fits ((IntKind.i64.wrap e3) * 1117) then (if fits (((IntKind.i64.wrap e2) * 131) + ((IntKind.i64.wrap e3) * 1117)) then (if fits (((b2 + 1) - 1) * 29) then (if fits ((((IntKind.i64.wrap e2) * 131) + ((IntKind.i64.wrap e3) * 1117)) + (((b2 + 1) - 1) * 29)) then (if (b.length : Int) ≠ 0 then
                                    (if fits (((b2 + 1) - 1).tdiv (b.length : Int)) then (if fits ((((b2 + 1) - 1).tdiv (b.length : Int)) * 53) then (if fits (((((IntKind.i64.wrap e2) * 131) + ((IntKind.i64.wrap e3) * 1117)) + (((b2 + 1) - 1) * 29)) + ((((b2 + 1) - 1).tdiv (b.length : Int)) * 53)) then (if 64 ≠ 0 then
                                            (if fits ((((((IntKind.i64.wrap e2) * 131) + ((IntKind.i64.wrap e3) * 1117)) + (((b2 + 1) - 1) * 29)) + ((((b2 + 1) - 1).tdiv (b.length : Int)) * 53)).tdiv 64) then (if n ≠ 0 then
                                                (some (((bitsI .xor .i64 (((((IntKind.i64.wrap e2) * 131) + ((IntKind.i64.wrap e3) * 1117)) + (((b2 + 1) - 1) * 29)) + ((((b2 + 1) - 1).tdiv (b.length : Int)) * 53)) ((((((IntKind.i64.wrap e2) * 131) + ((IntKind.i64.wrap e3) * 1117)) + (((b2 + 1) - 1) * 29)) + ((((b2 + 1) - 1).tdiv (b.length : Int)) * 53)).tdiv 64)).tmod n), b, (b2 + 1)))
                                                else none) else none)
                                            else none) else none) else none) else none)
                                    else none) else none) else none) else none) else none))
                        else none) else none) else none) else none))
              else none)) else none))) else none)
def s_l30Rd_pick_M (N : Nat) : Model := ⟨s_l30Rd_pick_arg, s_l30Rd_pick_ret, fun a => s_l30Rd_pick_m N a.1 a.2.1 a.2.2⟩
set_option maxRecDepth 1000000 in
theorem s_l30Rd_pick_ok (N : Nat) : ModelOk Try.prog 63 (s_l30Rd_pick_M N) :=
  modelOk_of (E := mkEnv [] [] [900000]) (mkEnv_ok fnsOk_nil _ _) Try.func63 (by kernel_rfl) rfl N s_l30Rd_pick_h (s_l30Rd_pick_M N) (by kernel_rfl) (by kernel_rfl) (fun a => by kernel_rfl)
/-! (*loop.example/fossick/spec.l30Rd).of -/
def s_l30Rd_of_arg : Sh := ⟨[.box 900000 0, .pv (.sl .str)], [(900000, false, [.pv (.sl (.int .u8)), .pv (.int .i64)])]⟩
def s_l30Rd_of_ret : Sh := ⟨[.pv .str], [(900000, false, [.pv (.sl (.int .u8)), .pv (.int .i64)])]⟩
def s_l30Rd_of_h : Hint := .no
def s_l30Rd_of_m (N : Nat) (list : List (List UInt8)) (b : List Int) (b2 : Int) : Option ((List UInt8) × (List Int) × Int) :=
  (Option.bind (s_l30Rd_pick_m N (list.length : Int) b b2) fun (r : Int × (List Int) × Int) =>
    (Option.bind (idx list r.1) fun (e : List UInt8) =>
      (some (e, r.2.1, r.2.2))))
def s_l30Rd_of_M (N : Nat) : Model := ⟨s_l30Rd_of_arg, s_l30Rd_of_ret, fun a => s_l30Rd_of_m N a.1 a.2.1 a.2.2⟩
set_option maxRecDepth 1000000 in
theorem s_l30Rd_of_ok (N : Nat) : ModelOk Try.prog 82 (s_l30Rd_of_M N) :=
  modelOk_of (E := mkEnv [(63, s_l30Rd_pick_M N)] [] [900000]) (mkEnv_ok (fnsOk_cons (s_l30Rd_pick_ok N) fnsOk_nil) _ _) Try.func82 (by kernel_rfl) rfl N s_l30Rd_of_h (s_l30Rd_of_M N) (by kernel_rfl) (by kernel_rfl) (fun a => by kernel_rfl)
/-! loop.example/fossick/spec.l30Raw -/
def s_l30Raw_arg : Sh := ⟨[.box 900000 0], [(900000, false, [.pv (.sl (.int .u8)), .pv (.int .i64)])]⟩
def s_l30Raw_ret : Sh := ⟨[.pv .str], [(900000, false, [.pv (.sl (.int .u8)), .pv (.int .i64)])]⟩
def s_l30Raw_h : Hint := .no
def s_l30Raw_m (N : Nat) (b : List Int) (b2 : Int) : Option ((List UInt8) × (List Int) × Int) :=
  (Option.bind (s_l30Rd_of_m N ([([99, 97, 116] : List UInt8), ([67, 97, 116, 115] : List UInt8), ([100, 111, 103] : List UInt8), ([100, 111, 103, 115] : List UInt8), ([114, 117, 110] : List UInt8), ([82, 85, 78, 78, 73, 78, 71] : List UInt8), ([116, 104, 101] : List UInt8), ([114, 101, 100] : List UInt8), ([98, 105, 103] : List UInt8), ([110, 101, 119, 32, 121, 111, 114, 107] : List UInt8), ([78, 101, 119, 32, 32, 89, 111, 114, 107] : List UInt8), ([110, 121] : List UInt8), ([102, 111, 120] : List UInt8), ([112, 97, 115, 115, 101, 100] : List UInt8), ([120, 49] : List UInt8), ([97, 118, 101, 114, 121, 118, 101, 114, 121, 108, 111, 110, 103, 119, 111, 114, 100] : List UInt8)] : List (List UInt8)) b b2) fun (r : (List UInt8) × (List Int) × Int) =>
    (some (r.1, r.2.1, r.2.2)))
def s_l30Raw_M (N : Nat) : Model := ⟨s_l30Raw_arg, s_l30Raw_ret, fun a => s_l30Raw_m N a.1 a.2⟩
set_option maxRecDepth 1000000 in
theorem s_l30Raw_ok (N : Nat) : ModelOk Try.prog 100 (s_l30Raw_M N) :=
  modelOk_of (E := mkEnv [(82, s_l30Rd_of_M N)] [] [900000]) (mkEnv_ok (fnsOk_cons (s_l30Rd_of_ok N) fnsOk_nil) _ _) Try.func100 (by kernel_rfl) rfl N s_l30Raw_h (s_l30Raw_M N) (by kernel_rfl) (by kernel_rfl) (fun a => by kernel_rfl)
/-! loop.example/fossick/spec.l30Text -/
def s_l30Text_arg : Sh := ⟨[.box 900000 0], [(900000, false, [.pv (.sl (.int .u8)), .pv (.int .i64)])]⟩
def s_l30Text_ret : Sh := ⟨[.pv .str], [(900000, false, [.pv (.sl (.int .u8)), .pv (.int .i64)])]⟩
def s_l30Text_s1 : Sh := ⟨[.box 900000 0, .dead, .dead, .pv .str, .pv (.int .i64), .dead, .dead, .dead, .dead, .dead, .dead, .dead, .dead, .dead, .dead, .dead, .dead, .dead, .dead, .dead], [(900000, false, [.pv (.sl (.int .u8)), .pv (.int .i64)])]⟩
def s_l30Text_h : Hint := (.seq .no (.seq .no (.seq (.seq .no (.block (.loop s_l30Text_s1 .no))) .no)))
def s_l30Text_m (N : Nat) (b : List Int) (b2 : Int) : Option ((List UInt8) × (List Int) × Int) :=
  (Option.bind (s_l30Rd_pick_m N 9 b b2) fun (r : Int × (List Int) × Int) =>
    (iter (fun (go : ((List UInt8) × Int × (List Int) × Int) → Option ((List UInt8) × (List Int) × Int)) (g : (List UInt8) × Int × (List Int) × Int) => 
        match g with
        | (s, n, b3, b4) =>
        (bif (decide ((0 : Int) < n)) then
          (Option.bind (s_l30Raw_m N b3 b4) fun (r2 : (List UInt8) × (List Int) × Int) =>
            (if s.length + r2.1.length ≤ 9223372036854775807 then
              (Option.bind (s_l30Rd_of_m N ([([32] : List UInt8), ([32] : List UInt8), ([44, 32] : List UInt8), ([45] : List UInt8), ([46, 32] : List UInt8)] : List (List UInt8)) r2.2.1 r2.2.2) fun (r3 : (List UInt8) × (List Int) × Int) =>
                (if (s ++ r2.1).length + r3.1.length ≤ 9223372036854775807 then
                  (if fits (n - 1) then (go (((s ++ r2.1) ++ r3.1), (n - 1), r3.2.1, r3.2.2)) else none)
                  else none))
              else none))
          else
          (some (s, b3, b4)))) N (([] : List UInt8), r.1, r.2.1, r.2.2)))
def s_l30Text_M (N : Nat) : Model := ⟨s_l30Text_arg, s_l30Text_ret, fun a => s_l30Text_m N a.1 a.2⟩
set_option maxRecDepth 1000000 in
theorem s_l30Text_ok (N : Nat) : ModelOk Try.prog 89 (s_l30Text_M N) :=
  modelOk_of (E := mkEnv [(63, s_l30Rd_pick_M N), (100, s_l30Raw_M N), (82, s_l30Rd_of_M N)] [] [900000]) (mkEnv_ok (fnsOk_cons (s_l30Rd_pick_ok N) (fnsOk_cons (s_l30Raw_ok N) (fnsOk_cons (s_l30Rd_of_ok N) fnsOk_nil))) _ _) Try.func89 (by kernel_rfl) rfl N s_l30Text_h (s_l30Text_M N) (by kernel_rfl) (by kernel_rfl) (fun a => by kernel_rfl)
/-! loop.example/fossick/spec.l30Doc -/
def s_l30Doc_arg : Sh := ⟨[.box 900000 0, .pv (.int .i64)], [(900000, false, [.pv (.sl (.int .u8)), .pv (.int .i64)])]⟩
def s_l30Doc_ret : Sh := ⟨[.agg [.pv (.int .i64), .own 1 (.pair .str .str) 87 true, .own 2 (.pair .str (.int .i64)) 90 true]], [(900000, false, [.pv (.sl (.int .u8)), .pv (.int .i64)])]⟩
def s_l30Doc_s1 : Sh := ⟨[.box 900000 0, .dead, .dead, .dead, .box 4 0, .box 5 0, .dead, .dead, .dead, .dead, .dead, .dead, .dead, .dead, .dead, .dead, .dead, .dead, .dead, .dead, .dead, .dead, .dead, .dead, .dead, .dead, .dead, .dead, .dead, .dead, .dead, .dead, .dead, .dead, .dead, .dead, .dead, .dead, .dead, .dead, .dead, .dead, .dead, .dead, .dead, .dead, .dead, .dead, .dead, .dead, .dead, .dead, .dead, .dead], [(4, false, [.pv (.int .i64), .nils, .nils]), (5, false, [.pv (.int .i64), .own 28 (.pair .str .str) 87 true, .own 39 (.pair .str (.int .i64)) 90 true]), (900000, false, [.pv (.sl (.int .u8)), .pv (.int .i64)])]⟩
def s_l30Doc_s2 : Sh := ⟨[.box 900000 0, .dead, .dead, .dead, .box 4 0, .box 5 0, .dead, .dead, .dead, .dead, .dead, .dead, .dead, .dead, .dead, .dead, .dead, .dead, .dead, .dead, .dead, .dead, .dead, .dead, .dead, .dead, .dead, .dead, .dead, .dead, .dead, .dead, .dead, .dead, .dead, .dead, .dead, .dead, .dead, .dead, .dead, .dead, .dead, .dead, .dead, .dead, .dead, .dead, .dead, .dead, .dead, .dead, .dead, .dead], [(4, false, [.pv (.int .i64), .nils, .nils]), (5, false, [.pv (.int .i64), .own 28 (.pair .str .str) 87 true, .nils]), (900000, false, [.pv (.sl (.int .u8)), .pv (.int .i64)])]⟩
def s_l30Doc_s3 : Sh := ⟨[.box 900000 0, .dead, .dead, .dead, .box 4 0, .box 5 0, .dead, .dead, .dead, .dead, .dead, .dead, .dead, .dead, .dead, .dead, .dead, .dead, .dead, .dead, .dead, .dead, .dead, .dead, .dead, .dead, .dead, .dead, .dead, .dead, .dead, .dead, .dead, .dead, .dead, .dead, .dead, .dead, .dead, .dead, .dead, .dead, .dead, .dead, .dead, .dead, .dead, .dead, .dead, .dead, .dead, .dead, .dead, .dead], [(4, false, [.pv (.int .i64), .nils, .nils]), (5, false, [.pv (.int .i64), .own 17 (.pair .str .str) 87 true, .nils]), (900000, false, [.pv (.sl (.int .u8)), .pv (.int .i64)])]⟩
def s_l30Doc_h : Hint := (.seq .no (.seq .no (.meet s_l30Doc_s3 .no (.meet s_l30Doc_s2 .no (.meet s_l30Doc_s1 .no .no)))))
def s_l30Doc_m (N : Nat) (id : Int) (b : List Int) (b2 : Int) : Option (Int × (List ((List UInt8) × (List UInt8))) × (List ((List UInt8) × Int)) × (List Int) × Int) :=
  (meet (fun (g : Int × Int × (List ((List UInt8) × (List UInt8))) × (List Int) × Int) => 
      match g with
      | (b3, d, d2, b4, b5) =>
      (meet (fun (g : Int × Int × (List ((List UInt8) × (List UInt8))) × (List Int) × Int) => 
          match g with
          | (b6, d3, d4, b7, b8) =>
          (meet (fun (g : Int × Int × (List ((List UInt8) × (List UInt8))) × (List ((List UInt8) × Int)) × (List Int) × Int) => 
              match g with
              | (b9, d5, d6, d7, b10, b11) =>
              (Option.bind (s_l30Rd_pick_m N 3 b10 b11) fun (r7 : Int × (List Int) × Int) =>
                (bif (decide (r7.1 = 0)) then
                  (Option.bind (s_l30Rd_pick_m N 30 r7.2.1 r7.2.2) fun (r8 : Int × (List Int) × Int) =>
                    (if fits (2000 + r8.1) then (if room d7.length ([(([121, 101, 97, 114] : List UInt8), (2000 + r8.1))] : List ((List UInt8) × Int)).length 24 then
                        (some (d5, d6, (d7 ++ ([(([121, 101, 97, 114] : List UInt8), (2000 + r8.1))] : List ((List UInt8) × Int))), r8.2.1, r8.2.2))
                        else none) else none))
                  else
                  (some (d5, d6, d7, r7.2.1, r7.2.2))))) fun (J3 : (Int × Int × (List ((List UInt8) × (List UInt8))) × (List ((List UInt8) × Int)) × (List Int) × Int) → Option (Int × (List ((List UInt8) × (List UInt8))) × (List ((List UInt8) × Int)) × (List Int) × Int)) =>
            (Option.bind (s_l30Rd_pick_m N 3 b7 b8) fun (r5 : Int × (List Int) × Int) =>
              (bif (decide ((0 : Int) < r5.1)) then
                (Option.bind (s_l30Rd_pick_m N 4 r5.2.1 r5.2.2) fun (r6 : Int × (List Int) × Int) =>
                  (if room ([] : List ((List UInt8) × Int)).length ([(([114, 97, 116, 101] : List UInt8), r6.1)] : List ((List UInt8) × Int)).length 24 then
                    (J3 (b6, d3, d4, (([] : List ((List UInt8) × Int)) ++ ([(([114, 97, 116, 101] : List UInt8), r6.1)] : List ((List UInt8) × Int))), r6.2.1, r6.2.2))
                    else none))
                else
                (J3 (b6, d3, d4, ([] : List ((List UInt8) × Int)), r5.2.1, r5.2.2)))))) fun (J2 : (Int × Int × (List ((List UInt8) × (List UInt8))) × (List Int) × Int) → Option (Int × (List ((List UInt8) × (List UInt8))) × (List ((List UInt8) × Int)) × (List Int) × Int)) =>
        (Option.bind (s_l30Rd_pick_m N 3 b4 b5) fun (r3 : Int × (List Int) × Int) =>
          (bif (decide (r3.1 = 0)) then
            (Option.bind (s_l30Text_m N r3.2.1 r3.2.2) fun (r4 : (List UInt8) × (List Int) × Int) =>
              (if room d2.length ([(([116, 105, 116, 108, 101] : List UInt8), r4.1)] : List ((List UInt8) × (List UInt8))).length 32 then
                (J2 (b3, d, (d2 ++ ([(([116, 105, 116, 108, 101] : List UInt8), r4.1)] : List ((List UInt8) × (List UInt8)))), r4.2.1, r4.2.2))
                else none))
            else
            (J2 (b3, d, d2, r3.2.1, r3.2.2)))))) fun (J : (Int × Int × (List ((List UInt8) × (List UInt8))) × (List Int) × Int) → Option (Int × (List ((List UInt8) × (List UInt8))) × (List ((List UInt8) × Int)) × (List Int) × Int)) =>
    (Option.bind (s_l30Rd_pick_m N 6 b b2) fun (r : Int × (List Int) × Int) =>
      (bif (decide ((0 : Int) < r.1)) then
        (Option.bind (s_l30Text_m N r.2.1 r.2.2) fun (r2 : (List UInt8) × (List Int) × Int) =>
          (if room ([] : List ((List UInt8) × (List UInt8))).length ([(([98, 111, 100, 121] : List UInt8), r2.1)] : List ((List UInt8) × (List UInt8))).length 32 then
            (J (0, id, (([] : List ((List UInt8) × (List UInt8))) ++ ([(([98, 111, 100, 121] : List UInt8), r2.1)] : List ((List UInt8) × (List UInt8)))), r2.2.1, r2.2.2))
            else none))
        else
        (J (0, id, ([] : List ((List UInt8) × (List UInt8))), r.2.1, r.2.2)))))
def s_l30Doc_M (N : Nat) : Model := ⟨s_l30Doc_arg, s_l30Doc_ret, fun a => s_l30Doc_m N a.1 a.2.1 a.2.2⟩
set_option maxRecDepth 1000000 in
theorem s_l30Doc_ok (N : Nat) : ModelOk Try.prog 79 (s_l30Doc_M N) :=
  modelOk_of (E := mkEnv [(63, s_l30Rd_pick_M N), (89, s_l30Text_M N)] [] [900000]) (mkEnv_ok (fnsOk_cons (s_l30Rd_pick_ok N) (fnsOk_cons (s_l30Text_ok N) fnsOk_nil)) _ _) Try.func79 (by kernel_rfl) rfl N s_l30Doc_h (s_l30Doc_M N) (by kernel_rfl) (by kernel_rfl) (fun a => by kernel_rfl)
/-! (*loop.example/fossick/spec.l30Rd).one -/
def s_l30Rd_one_arg : Sh := ⟨[.box 900000 0, .pv (.sl (.int .i64))], [(900000, false, [.pv (.sl (.int .u8)), .pv (.int .i64)])]⟩
def s_l30Rd_one_ret : Sh := ⟨[.pv (.int .i64)], [(900000, false, [.pv (.sl (.int .u8)), .pv (.int .i64)])]⟩
def s_l30Rd_one_h : Hint := .no
def s_l30Rd_one_m (N : Nat) (list : List Int) (b : List Int) (b2 : Int) : Option (Int × (List Int) × Int) :=
  (Option.bind (s_l30Rd_pick_m N (list.length : Int) b b2) fun (r : Int × (List Int) × Int) =>
    (Option.bind (idx list r.1) fun (e : Int) =>
      (some (e, r.2.1, r.2.2))))
def s_l30Rd_one_M (N : Nat) : Model := ⟨s_l30Rd_one_arg, s_l30Rd_one_ret, fun a => s_l30Rd_one_m N a.1 a.2.1 a.2.2⟩
set_option maxRecDepth 1000000 in
theorem s_l30Rd_one_ok (N : Nat) : ModelOk Try.prog 80 (s_l30Rd_one_M N) :=
  modelOk_of (E := mkEnv [(63, s_l30Rd_pick_M N)] [] [900000]) (mkEnv_ok (fnsOk_cons (s_l30Rd_pick_ok N) fnsOk_nil) _ _) Try.func80 (by kernel_rfl) rfl N s_l30Rd_one_h (s_l30Rd_one_M N) (by kernel_rfl) (by kernel_rfl) (fun a => by kernel_rfl)
/-! loop.example/fossick/spec.l30AnyText -/
def s_l30AnyText_arg : Sh := ⟨[.box 900000 0], [(900000, false, [.pv (.sl (.int .u8)), .pv (.int .i64)])]⟩
def s_l30AnyText_ret : Sh := ⟨[.pv .str], [(900000, false, [.pv (.sl (.int .u8)), .pv (.int .i64)])]⟩
def s_l30AnyText_h : Hint := .no
def s_l30AnyText_m (N : Nat) (b : List Int) (b2 : Int) : Option ((List UInt8) × (List Int) × Int) :=
  (Option.bind (s_l30Text_m N b b2) fun (r : (List UInt8) × (List Int) × Int) =>
    (Option.bind (s_l30Rd_pick_m N 12 r.2.1 r.2.2) fun (r2 : Int × (List Int) × Int) =>
      (bif (decide (r2.1 = 0)) then
        (Option.bind (s_l30Rd_of_m N ([([10] : List UInt8), ([255] : List UInt8), ([48, 49, 50, 51, 52, 53, 54, 55, 56, 57, 32, 48, 49, 50, 51, 52, 53, 54, 55, 56, 57, 32, 48, 49, 50, 51, 52, 53, 54, 55, 56, 57, 32, 48, 49, 50, 51, 52, 53, 54, 55, 56, 57, 32, 48, 49, 50, 51, 52, 53, 54, 55, 56, 57, 32, 48, 49, 50, 51, 52, 53, 54, 55, 56, 57, 32, 48, 49, 50, 51, 52, 53, 54, 55, 56, 57, 32, 48, 49, 50, 51, 52, 53, 54, 55, 56, 57, 32, 48, 49, 50, 51, 52, 53, 54, 55, 56, 57, 32, 48, 49, 50, 51, 52, 53, 54, 55, 56, 57, 32, 48, 49, 50, 51, 52, 53, 54, 55, 56, 57, 32, 48, 49, 50, 51, 52, 53, 54, 55, 56, 57, 32, 48, 49, 50, 51, 52, 53, 54, 55, 56, 57, 32, 48, 49, 50, 51, 52, 53, 54, 55, 56, 57, 32, 48, 49, 50, 51, 52, 53, 54, 55] : List UInt8)] : List (List UInt8)) r2.2.1 r2.2.2) fun (r3 : (List UInt8) × (List Int) × Int) =>
          (if r.1.length + r3.1.length ≤ 9223372036854775807 then
            (some ((r.1 ++ r3.1), r3.2.1, r3.2.2))
            else none))
        else
        (some (r.1, r2.2.1, r2.2.2)))))
def s_l30AnyText_M (N : Nat) : Model := ⟨s_l30AnyText_arg, s_l30AnyText_ret, fun a => s_l30AnyText_m N a.1 a.2⟩
set_option maxRecDepth 1000000 in
theorem s_l30AnyText_ok (N : Nat) : ModelOk Try.prog 81 (s_l30AnyText_M N) :=
  modelOk_of (E := mkEnv [(89, s_l30Text_M N), (63, s_l30Rd_pick_M N), (82, s_l30Rd_of_M N)] [] [900000]) (mkEnv_ok (fnsOk_cons (s_l30Text_ok N) (fnsOk_cons (s_l30Rd_pick_ok N) (fnsOk_cons (s_l30Rd_of_ok N) fnsOk_nil))) _ _) Try.func81 (by kernel_rfl) rfl N s_l30AnyText_h (s_l30AnyText_M N) (by kernel_rfl) (by kernel_rfl) (fun a => by kernel_rfl)
/-! loop.example/fossick/spec.l30AnyDoc -/
def s_l30AnyDoc_arg : Sh := ⟨[.box 900000 0], [(900000, false, [.pv (.sl (.int .u8)), .pv (.int .i64)])]⟩
def s_l30AnyDoc_ret : Sh := ⟨[.agg [.pv (.int .i64), .own 1 (.pair .str .str) 87 true, .own 2 (.pair .str (.int .i64)) 90 true]], [(900000, false, [.pv (.sl (.int .u8)), .pv (.int .i64)])]⟩
def s_l30AnyDoc_h : Hint := .no
def s_l30AnyDoc_m (N : Nat) (b : List Int) (b2 : Int) : Option (Int × (List ((List UInt8) × (List UInt8))) × (List ((List UInt8) × Int)) × (List Int) × Int) :=
  (Option.bind (s_l30Rd_pick_m N 9 b b2) fun (r : Int × (List Int) × Int) =>
    (if fits (1 + r.1) then (Option.bind (s_l30Doc_m N (1 + r.1) r.2.1 r.2.2) fun (r2 : Int × (List ((List UInt8) × (List UInt8))) × (List ((List UInt8) × Int)) × (List Int) × Int) =>
        (Option.bind (s_l30Rd_pick_m N 14 r2.2.2.2.1 r2.2.2.2.2) fun (r3 : Int × (List Int) × Int) =>
          (bif (decide (r3.1 = 0)) then
            (Option.bind (s_l30Rd_one_m N ([0, 10000, 9999] : List Int) r3.2.1 r3.2.2) fun (r4 : Int × (List Int) × Int) =>
              (some (r4.1, r2.2.1, r2.2.2.1, r4.2.1, r4.2.2)))
            else
            (bif (decide (r3.1 = 1)) then
              (if room r2.2.1.length ([(([98, 111, 100, 121] : List UInt8), ([97, 103, 97, 105, 110] : List UInt8))] : List ((List UInt8) × (List UInt8))).length 32 then
                (some (r2.1, (r2.2.1 ++ ([(([98, 111, 100, 121] : List UInt8), ([97, 103, 97, 105, 110] : List UInt8))] : List ((List UInt8) × (List UInt8)))), r2.2.2.1, r3.2.1, r3.2.2))
                else none)
              else
              (bif (decide (r3.1 = 2)) then
                (Option.bind (s_l30Rd_one_m N ([(-1), 1000000000] : List Int) r3.2.1 r3.2.2) fun (r5 : Int × (List Int) × Int) =>
                  (if room r2.2.2.1.length ([(([122, 122] : List UInt8), r5.1)] : List ((List UInt8) × Int)).length 24 then
                    (some (r2.1, r2.2.1, (r2.2.2.1 ++ ([(([122, 122] : List UInt8), r5.1)] : List ((List UInt8) × Int))), r5.2.1, r5.2.2))
                    else none))
                else
                (bif (decide (r3.1 = 3)) then
                  (Option.bind (s_l30AnyText_m N r3.2.1 r3.2.2) fun (r6 : (List UInt8) × (List Int) × Int) =>
                    (if room r2.2.1.length ([(([122, 101, 100] : List UInt8), r6.1)] : List ((List UInt8) × (List UInt8))).length 32 then
                      (some (r2.1, (r2.2.1 ++ ([(([122, 101, 100] : List UInt8), r6.1)] : List ((List UInt8) × (List UInt8)))), r2.2.2.1, r6.2.1, r6.2.2))
                      else none))
                  else
                  (some (r2.1, r2.2.1, r2.2.2.1, r3.2.1, r3.2.2)))))))) else none))
def s_l30AnyDoc_M (N : Nat) : Model := ⟨s_l30AnyDoc_arg, s_l30AnyDoc_ret, fun a => s_l30AnyDoc_m N a.1 a.2⟩
set_option maxRecDepth 1000000 in
theorem s_l30AnyDoc_ok (N : Nat) : ModelOk Try.prog 53 (s_l30AnyDoc_M N) :=
  modelOk_of (E := mkEnv [(63, s_l30Rd_pick_M N), (79, s_l30Doc_M N), (80, s_l30Rd_one_M N), (81, s_l30AnyText_M N)] [] [900000]) (mkEnv_ok (fnsOk_cons (s_l30Rd_pick_ok N) (fnsOk_cons (s_l30Doc_ok N) (fnsOk_cons (s_l30Rd_one_ok N) (fnsOk_cons (s_l30AnyText_ok N) fnsOk_nil)))) _ _) Try.func53 (by kernel_rfl) rfl N s_l30AnyDoc_h (s_l30AnyDoc_M N) (by kernel_rfl) (by kernel_rfl) (fun a => by kernel_rfl)
/-! loop.example/fossick/spec.l30Keys -/
def s_l30Keys_arg : Sh := ⟨[.box 900000 0], [(900000, false, [.pv (.sl (.int .u8)), .pv (.int .i64)])]⟩
def s_l30Keys_ret : Sh := ⟨[.own 1 (.pair .str .bool) 53 true], [(900000, false, [.pv (.sl (.int .u8)), .pv (.int .i64)])]⟩
def s_l30Keys_s1 : Sh := ⟨[.box 900000 0, .dead, .dead, .own 600003 (.pair .str .bool) 53 true, .pv (.int .i64), .dead, .dead, .dead, .dead, .dead, .dead, .dead, .dead, .dead, .dead, .dead, .dead, .dead, .dead, .dead, .dead, .dead, .dead, .dead, .dead, .dead, .dead, .dead, .dead, .dead, .dead, .dead, .dead], [(900000, false, [.pv (.sl (.int .u8)), .pv (.int .i64)])]⟩
def s_l30Keys_h : Hint := (.seq .no (.seq .no (.seq (.seq .no (.block (.loop s_l30Keys_s1 .no))) .no)))
def s_l30Keys_m (N : Nat) (b : List Int) (b2 : Int) : Option ((List ((List UInt8) × Bool)) × (List Int) × Int) :=
  (Option.bind (s_l30Rd_pick_m N 3 b b2) fun (r : Int × (List Int) × Int) =>
    (iter (fun (go : ((List ((List UInt8) × Bool)) × Int × (List Int) × Int) → Option ((List ((List UInt8) × Bool)) × (List Int) × Int)) (g : (List ((List UInt8) × Bool)) × Int × (List Int) × Int) => 
        match g with
        | (out, n, b3, b4) =>
        (bif (decide ((0 : Int) < n)) then
          (Option.bind (s_l30Rd_of_m N ([([114, 97, 116, 101] : List UInt8), ([121, 101, 97, 114] : List UInt8), ([110, 111, 110, 101] : List UInt8)] : List (List UInt8)) b3 b4) fun (r2 : (List UInt8) × (List Int) × Int) =>
            (Option.bind (s_l30Rd_pick_m N 2 r2.2.1 r2.2.2) fun (r3 : Int × (List Int) × Int) =>
              (if room out.length ([(r2.1, (decide (r3.1 = 0)))] : List ((List UInt8) × Bool)).length 24 then
                (if fits (n - 1) then (go ((out ++ ([(r2.1, (decide (r3.1 = 0)))] : List ((List UInt8) × Bool))), (n - 1), r3.2.1, r3.2.2)) else none)
                else none)))
          else
          (Option.bind (s_l30Rd_pick_m N 12 b3 b4) fun (r4 : Int × (List Int) × Int) =>
            (bif (decide (r4.1 = 0)) then
              (Option.bind (s_l30Rd_of_m N ([([] : List UInt8), ([66, 97, 100] : List UInt8)] : List (List UInt8)) r4.2.1 r4.2.2) fun (r5 : (List UInt8) × (List Int) × Int) =>
                (if room out.length ([(r5.1, false)] : List ((List UInt8) × Bool)).length 24 then
                  (some ((out ++ ([(r5.1, false)] : List ((List UInt8) × Bool))), r5.2.1, r5.2.2))
                  else none))
              else
              (some (out, r4.2.1, r4.2.2)))))) N (([] : List ((List UInt8) × Bool)), r.1, r.2.1, r.2.2)))
def s_l30Keys_M (N : Nat) : Model := ⟨s_l30Keys_arg, s_l30Keys_ret, fun a => s_l30Keys_m N a.1 a.2⟩
set_option maxRecDepth 1000000 in
theorem s_l30Keys_ok (N : Nat) : ModelOk Try.prog 54 (s_l30Keys_M N) :=
  modelOk_of (E := mkEnv [(63, s_l30Rd_pick_M N), (82, s_l30Rd_of_M N)] [] [900000]) (mkEnv_ok (fnsOk_cons (s_l30Rd_pick_ok N) (fnsOk_cons (s_l30Rd_of_ok N) fnsOk_nil)) _ _) Try.func54 (by kernel_rfl) rfl N s_l30Keys_h (s_l30Keys_M N) (by kernel_rfl) (by kernel_rfl) (fun a => by kernel_rfl)
/-! loop.example/fossick/spec.DrawSortLess -/
def s_DrawSortLess_arg : Sh := ⟨[.pv (.sl (.int .u8))], []⟩
def s_DrawSortLess_ret : Sh := ⟨[.tup [.agg [.pv (.int .i64), .own 1 (.pair .str .str) 87 true, .own 2 (.pair .str (.int .i64)) 90 true], .agg [.pv (.int .i64), .own 3 (.pair .str .str) 87 true, .own 4 (.pair .str (.int .i64)) 90 true], .own 5 (.pair .str .bool) 53 true]], []⟩
def s_DrawSortLess_h : Hint := .no
def s_DrawSortLess_m (N : Nat) (code : List Int) : Option (Int × (List ((List UInt8) × (List UInt8))) × (List ((List UInt8) × Int)) × Int × (List ((List UInt8) × (List UInt8))) × (List ((List UInt8) × Int)) × (List ((List UInt8) × Bool))) :=
  (Option.bind (s_l30Open_m N code) fun (r : (List Int) × Int) =>
    (Option.bind (s_l30AnyDoc_m N r.1 r.2) fun (r2 : Int × (List ((List UInt8) × (List UInt8))) × (List ((List UInt8) × Int)) × (List Int) × Int) =>
      (Option.bind (s_l30AnyDoc_m N r2.2.2.2.1 r2.2.2.2.2) fun (r3 : Int × (List ((List UInt8) × (List UInt8))) × (List ((List UInt8) × Int)) × (List Int) × Int) =>
        (Option.bind (s_l30Keys_m N r3.2.2.2.1 r3.2.2.2.2) fun (r4 : (List ((List UInt8) × Bool)) × (List Int) × Int) =>
          (some (r2.1, r2.2.1, r2.2.2.1, r3.1, r3.2.1, r3.2.2.1, r4.1))))))
def s_DrawSortLess_M (N : Nat) : Model := ⟨s_DrawSortLess_arg, s_DrawSortLess_ret, fun a => s_DrawSortLess_m N a⟩
set_option maxRecDepth 1000000 in
theorem s_DrawSortLess_ok (N : Nat) : ModelOk Try.prog 18 (s_DrawSortLess_M N) :=
  modelOk_of (E := mkEnv [(52, s_l30Open_M N), (53, s_l30AnyDoc_M N), (54, s_l30Keys_M N)] [] []) (mkEnv_ok (fnsOk_cons (s_l30Open_ok N) (fnsOk_cons (s_l30AnyDoc_ok N) (fnsOk_cons (s_l30Keys_ok N) fnsOk_nil))) _ _) Try.func18 (by kernel_rfl) rfl N s_DrawSortLess_h (s_DrawSortLess_M N) (by kernel_rfl) (by kernel_rfl) (fun a => by kernel_rfl)
/-! loop.example/fossick/impl.DocsOk -/
def i_DocsOk_arg : Sh := ⟨[.pv (.sl (.pair (.int .i64) (.pair (.sl (.pair .str .str)) (.sl (.pair .str (.int .i64))))))], []⟩
def i_DocsOk_ret : Sh := ⟨[.pv .bool], []⟩
def i_DocsOk_s1 : Sh := ⟨[.pv (.sl (.pair (.int .i64) (.pair (.sl (.pair .str .str)) (.sl (.pair .str (.int .i64)))))), .dead, .dead, .dead, .dead, .pv (.sl (.pair (.int .i64) (.pair (.sl (.pair .str .str)) (.sl (.pair .str (.int .i64)))))), .pv (.int .i64), .pv (.int .i64), .dead, .dead, .dead, .dead, .dead, .dead, .dead, .dead, .dead, .dead, .dead, .dead, .dead, .dead, .dead, .dead, .dead, .dead, .dead, .dead, .dead, .dead, .dead, .dead, .dead, .dead], []⟩
def i_DocsOk_h : Hint := (.seq .no (.seq (.seq .no (.block (.loop i_DocsOk_s1 .no))) .no))
def i_DocsOk_m (N : Nat) (list : List (Int × (List ((List UInt8) × (List UInt8))) × (List ((List UInt8) × Int)))) : Option (Bool) :=
  (iter (fun (go : ((List (Int × (List ((List UInt8) × (List UInt8))) × (List ((List UInt8) × Int)))) × (List (Int × (List ((List UInt8) × (List UInt8))) × (List ((List UInt8) × Int)))) × Int × Int) → Option Bool) (g : (List (Int × (List ((List UInt8) × (List UInt8))) × (List ((List UInt8) × Int)))) × (List (Int × (List ((List UInt8) × (List UInt8))) × (List ((List UInt8) × Int)))) × Int × Int) => 
      match g with
      | (list2, t5, t6, t7) =>
      (bif (decide (t7 < t6)) then
        (Option.bind (idx t5 t7) fun (e : Int × (List ((List UInt8) × (List UInt8))) × (List ((List UInt8) × Int))) =>
          (Option.bind (i_DocOk_m N e.1 e.2.1 e.2.2) fun (r : Bool) =>
            (bif (!r) then
              (some false)
              else
              (bif (decide ((0 : Int) < t7)) then
                (if fits (t7 - 1) then (Option.bind (idx list2 (t7 - 1)) fun (e2 : Int × (List ((List UInt8) × (List UInt8))) × (List ((List UInt8) × Int))) =>
                    (bif (decide (e.1 ≤ e2.1)) then
                      (some false)
                      else
                      (if fits (t7 + 1) then (go (list2, t5, t6, (t7 + 1))) else none))) else none)
                else
                (if fits (t7 + 1) then (go (list2, t5, t6, (t7 + 1))) else none)))))
        else
        (some (decide ((list2.length : Int) ≤ 16))))) N (list, list, (list.length : Int), 0))
def i_DocsOk_M (N : Nat) : Model := ⟨i_DocsOk_arg, i_DocsOk_ret, fun a => i_DocsOk_m N a⟩
set_option maxRecDepth 1000000 in
theorem i_DocsOk_ok (N : Nat) : ModelOk Try.prog 24 (i_DocsOk_M N) :=
  modelOk_of (E := mkEnv [(19, i_DocOk_M N)] [] []) (mkEnv_ok (fnsOk_cons (i_DocOk_ok N) fnsOk_nil) _ _) Try.func24 (by kernel_rfl) rfl N i_DocsOk_h (i_DocsOk_M N) (by kernel_rfl) (by kernel_rfl) (fun a => by kernel_rfl)
/-! math/bits.Len64 -/
def k_math_bits_Len64_arg : Sh := ⟨[.pv (.int .u64)], []⟩
def k_math_bits_Len64_ret : Sh := ⟨[.pv (.int .i64)], []⟩
def k_math_bits_Len64_s1 : Sh := ⟨[.pv (.int .u64), .dead, .pv (.int .i64), .dead, .dead, .dead, .dead, .dead, .dead, .dead, .dead, .dead, .dead, .dead, .dead, .dead, .dead, .dead, .dead, .dead, .dead, .dead, .dead, .dead, .dead], []⟩
def k_math_bits_Len64_s2 : Sh := ⟨[.pv (.int .u64), .dead, .pv (.int .i64), .dead, .dead, .dead, .dead, .dead, .dead, .dead, .dead, .dead, .dead, .dead, .dead, .dead, .dead, .dead, .dead, .dead, .dead, .dead, .dead, .dead, .dead], []⟩
def k_math_bits_Len64_s3 : Sh := ⟨[.pv (.int .u64), .dead, .pv (.int .i64), .dead, .dead, .dead, .dead, .dead, .dead, .dead, .dead, .dead, .dead, .dead, .dead, .dead, .dead, .dead, .dead, .dead, .dead, .dead, .dead, .dead, .dead], []⟩
def k_math_bits_Len64_h : Hint := (.seq .no (.meet k_math_bits_Len64_s3 .no (.meet k_math_bits_Len64_s2 .no (.meet k_math_bits_Len64_s1 .no .no))))
def k_math_bits_Len64_m (N : Nat) (x : Int) : Option (Int) :=
  (meet (fun (g : Int × Int) => 
      match g with
      | (x2, n) =>
      (meet (fun (g : Int × Int) => 
          match g with
          | (x3, n2) =>
          (meet (fun (g : Int × Int) => 
              match g with
              | (x4, n3) =>
              (Option.bind (idx ([0, 1, 2, 2, 3, 3, 3, 3, 4, 4, 4, 4, 4, 4, 4, 4, 5, 5, 5, 5, 5, 5, 5, 5, 5, 5, 5, 5, 5, 5, 5, 5, 6, 6, 6, 6, 6, 6, 6, 6, 6, 6, 6, 6, 6, 6, 6, 6, 6, 6, 6, 6, 6, 6, 6, 6, 6, 6, 6, 6, 6, 6, 6, 6, 7, 7, 7, 7, 7, 7, 7, 7, 7, 7, 7, 7, 7, 7, 7, 7, 7, 7, 7, 7, 7, 7, 7, 7, 7, 7, 7, 7, 7, 7, 7, 7, 7, 7, 7, 7, 7, 7, 7, 7, 7, 7, 7, 7, 7, 7, 7, 7, 7, 7, 7, 7, 7, 7, 7, 7, 7, 7, 7, 7, 7, 7, 7, 7, 8, 8, 8, 8, 8, 8, 8, 8, 8, 8, 8, 8, 8, 8, 8, 8, 8, 8, 8, 8, 8, 8, 8, 8, 8, 8, 8, 8, 8, 8, 8, 8, 8, 8, 8, 8, 8, 8, 8, 8, 8, 8, 8, 8, 8, 8, 8, 8, 8, 8, 8, 8, 8, 8, 8, 8, 8, 8, 8, 8, 8, 8, 8, 8, 8, 8, 8, 8, 8, 8, 8, 8, 8, 8, 8, 8, 8, 8, 8, 8, 8, 8, 8, 8, 8, 8, 8, 8, 8, 8, 8, 8, 8, 8, 8, 8, 8, 8, 8, 8, 8, 8, 8, 8, 8, 8, 8, 8, 8, 8, 8, 8, 8, 8, 8, 8, 8, 8, 8, 8, 8, 8, 8, 8, 8, 8, 8, 8] : List UInt8) (IntKind.u8.wrap x4)) fun (c : UInt8) =>
                (if fits (n3 + (IntKind.i64.wrap (c.toNat : Int))) then (some (n3 + (IntKind.i64.wrap (c.toNat : Int)))) else none))) fun (J3 : (Int × Int) → Option Int) =>
            (bif (decide ((256 : Int) ≤ x3)) then
              (if 0 ≤ (8 : Int) then
                (if fits (n2 + 8) then (J3 ((x3.fdiv (2 ^ (min (8 : Int).toNat (IntKind.bits .u64)))), (n2 + 8))) else none)
                else none)
              else
              (J3 (x3, n2))))) fun (J2 : (Int × Int) → Option Int) =>
        (bif (decide ((65536 : Int) ≤ x2)) then
          (if 0 ≤ (16 : Int) then
            (if fits (n + 16) then (J2 ((x2.fdiv (2 ^ (min (16 : Int).toNat (IntKind.bits .u64)))), (n + 16))) else none)
            else none)
          else
          (J2 (x2, n))))) fun (J : (Int × Int) → Option Int) =>
    (bif (decide ((4294967296 : Int) ≤ x)) then
      (if 0 ≤ (32 : Int) then
        (J ((x.fdiv (2 ^ (min (32 : Int).toNat (IntKind.bits .u64)))), 32))
        else none)
      else
      (J (x, 0))))
def k_math_bits_Len64_M (N : Nat) : Model := ⟨k_math_bits_Len64_arg, k_math_bits_Len64_ret, fun a => k_math_bits_Len64_m N a⟩
set_option maxRecDepth 1000000 in
theorem k_math_bits_Len64_ok (N : Nat) : ModelOk Try.prog 99 (k_math_bits_Len64_M N) :=
  modelOk_of (E := mkEnv [] [] []) (mkEnv_ok fnsOk_nil _ _) Try.func99 (by kernel_rfl) rfl N k_math_bits_Len64_h (k_math_bits_Len64_M N) (by kernel_rfl) (by kernel_rfl) (fun a => by kernel_rfl)
/-! math/bits.Len -/
def k_math_bits_Len_arg : Sh := ⟨[.pv (.int .u64)], []⟩
def k_math_bits_Len_ret : Sh := ⟨[.pv (.int .i64)], []⟩
def k_math_bits_Len_h : Hint := .no
def k_math_bits_Len_m (N : Nat) (x : Int) : Option (Int) :=
  (Option.bind (k_math_bits_Len64_m N x) fun (r : Int) =>
    (some r))
def k_math_bits_Len_M (N : Nat) : Model := ⟨k_math_bits_Len_arg, k_math_bits_Len_ret, fun a => k_math_bits_Len_m N a⟩
set_option maxRecDepth 1000000 in
theorem k_math_bits_Len_ok (N : Nat) : ModelOk Try.prog 85 (k_math_bits_Len_M N) :=
  modelOk_of (E := mkEnv [(99, k_math_bits_Len64_M N)] [] []) (mkEnv_ok (fnsOk_cons (k_math_bits_Len64_ok N) fnsOk_nil) _ _) Try.func85 (by kernel_rfl) rfl N k_math_bits_Len_h (k_math_bits_Len_M N) (by kernel_rfl) (by kernel_rfl) (fun a => by kernel_rfl)
/-! loop.example/fossick/impl.SortOf$1 -/
def i_SortOf_1_arg : Sh := ⟨[.agg [.pv (.int .i64), .pv (.sl (.pair .str .str)), .pv (.sl (.pair .str (.int .i64)))], .agg [.pv (.int .i64), .pv (.sl (.pair .str .str)), .pv (.sl (.pair .str (.int .i64)))], .ptr (.sl (.pair .str .bool))], []⟩
def i_SortOf_1_ret : Sh := ⟨[.pv (.int .i64)], []⟩
def i_SortOf_1_h : Hint := .no
def i_SortOf_1_m (N : Nat) (a : Int) (a2 : List ((List UInt8) × (List UInt8))) (a3 : List ((List UInt8) × Int)) (b : Int) (b2 : List ((List UInt8) × (List UInt8))) (b3 : List ((List UInt8) × Int)) (t2 : List ((List UInt8) × Bool)) : Option (Int) :=
  (Option.bind (i_docOrder_m N a a2 a3 b b2 b3 t2) fun (r : Int) =>
    (some r))
def i_SortOf_1_M (N : Nat) : Model := ⟨i_SortOf_1_arg, i_SortOf_1_ret, fun a => i_SortOf_1_m N a.1 a.2.1 a.2.2.1 a.2.2.2.1 a.2.2.2.2.1 a.2.2.2.2.2.1 a.2.2.2.2.2.2⟩
set_option maxRecDepth 1000000 in
theorem i_SortOf_1_ok (N : Nat) : ModelOk Try.prog 59 (i_SortOf_1_M N) :=
  modelOk_of (E := mkEnv [(48, i_docOrder_M N)] [] []) (mkEnv_ok (fnsOk_cons (i_docOrder_ok N) fnsOk_nil) _ _) Try.func59 (by kernel_rfl) rfl N i_SortOf_1_h (i_SortOf_1_M N) (by kernel_rfl) (by kernel_rfl) (fun a => by kernel_rfl)
/-! slices.insertionSortCmpFunc[loop.example/fossick/impl.Doc] -/
def k_slices_insertionSortCmpFunc_424_arg : Sh := ⟨[.mtk 800000 (.pair (.int .i64) (.pair (.sl (.pair .str .str)) (.sl (.pair .str (.int .i64))))) 33 false, .pv (.int .i64), .pv (.int .i64), .clo 59 [.ptr (.sl (.pair .str .bool))]], []⟩
def k_slices_insertionSortCmpFunc_424_ret : Sh := ⟨[.tup [], .mtk 800000 (.pair (.int .i64) (.pair (.sl (.pair .str .str)) (.sl (.pair .str (.int .i64))))) 33 false], []⟩
def k_slices_insertionSortCmpFunc_424_s1 : Sh := ⟨[.mtk 800000 (.pair (.int .i64) (.pair (.sl (.pair .str .str)) (.sl (.pair .str (.int .i64))))) 33 false, .pv (.int .i64), .pv (.int .i64), .clo 59 [.ptr (.sl (.pair .str .bool))], .dead, .dead, .dead, .dead, .pv (.int .i64), .dead, .dead, .dead, .dead, .dead, .dead, .dead, .dead, .dead, .dead, .dead, .dead, .dead, .dead, .dead, .dead, .dead, .dead, .dead, .dead, .dead, .dead, .dead, .dead, .dead, .dead, .dead, .dead, .dead, .dead, .dead, .dead, .dead, .dead, .dead, .dead, .dead, .dead, .dead, .dead, .dead, .dead, .dead, .dead], []⟩
def k_slices_insertionSortCmpFunc_424_s2 : Sh := ⟨[.mtk 800000 (.pair (.int .i64) (.pair (.sl (.pair .str .str)) (.sl (.pair .str (.int .i64))))) 33 false, .pv (.int .i64), .pv (.int .i64), .clo 59 [.ptr (.sl (.pair .str .bool))], .dead, .dead, .dead, .dead, .pv (.int .i64), .pv (.int .i64), .dead, .dead, .dead, .dead, .dead, .dead, .dead, .dead, .dead, .dead, .dead, .dead, .dead, .dead, .dead, .dead, .dead, .dead, .dead, .dead, .dead, .dead, .dead, .dead, .dead, .dead, .dead, .dead, .dead, .dead, .dead, .dead, .dead, .dead, .dead, .dead, .dead, .dead, .dead, .dead, .dead, .dead, .dead], []⟩
def k_slices_insertionSortCmpFunc_424_h : Hint := (.seq .no (.block (.loop k_slices_insertionSortCmpFunc_424_s1 (.seq .no (.seq (.block (.seq .no (.block (.loop k_slices_insertionSortCmpFunc_424_s2 .no)))) .no)))))
def k_slices_insertionSortCmpFunc_424_m (N : Nat) (data : List (Int × (List ((List UInt8) × (List UInt8))) × (List ((List UInt8) × Int)))) (a : Int) (b : Int) (cmp : List ((List UInt8) × Bool)) : Option ((List (Int × (List ((List UInt8) × (List UInt8))) × (List ((List UInt8) × Int))))) :=
  (if fits (a + 1) then (iter (fun (go : ((List (Int × (List ((List UInt8) × (List UInt8))) × (List ((List UInt8) × Int)))) × Int × Int × (List ((List UInt8) × Bool)) × Int) → Option ((List (Int × (List ((List UInt8) × (List UInt8))) × (List ((List UInt8) × Int)))))) (g : (List (Int × (List ((List UInt8) × (List UInt8))) × (List ((List UInt8) × Int)))) × Int × Int × (List ((List UInt8) × Bool)) × Int) => 
        match g with
        | (data2, a2, b2, cmp2, i) =>
        (bif (decide (i < b2)) then
          (iter (fun (go2 : ((List (Int × (List ((List UInt8) × (List UInt8))) × (List ((List UInt8) × Int)))) × Int × Int × (List ((List UInt8) × Bool)) × Int × Int) → Option ((List (Int × (List ((List UInt8) × (List UInt8))) × (List ((List UInt8) × Int)))))) (g : (List (Int × (List ((List UInt8) × (List UInt8))) × (List ((List UInt8) × Int)))) × Int × Int × (List ((List UInt8) × Bool)) × Int × Int) => 
              match g with
              | (data3, a3, b3, cmp3, i2, j) =>
              (bif (decide (a3 < j)) then
                (if 0 ≤ j ∧ j < (data3.length : Int) then
                  (Option.bind (data3[j.toNat]?) fun (e : Int × (List ((List UInt8) × (List UInt8))) × (List ((List UInt8) × Int))) =>
                    (if fits (j - 1) then (if 0 ≤ (j - 1) ∧ (j - 1) < (data3.length : Int) then
                        (Option.bind (data3[(j - 1).toNat]?) fun (e2 : Int × (List ((List UInt8) × (List UInt8))) × (List ((List UInt8) × Int))) =>
                          (Option.bind (i_SortOf_1_m N e.1 e.2.1 e.2.2 e2.1 e2.2.1 e2.2.2 cmp3) fun (r : Int) =>
                            (bif (decide (r < 0)) then
                              (if fits (j - 1) then (if fits (j - 1) then (if 0 ≤ (j - 1) ∧ (j - 1) < (data3.length : Int) then
                                    (Option.bind (data3[(j - 1).toNat]?) fun (e3 : Int × (List ((List UInt8) × (List UInt8))) × (List ((List UInt8) × Int))) =>
                                      (if 0 ≤ j ∧ j < (data3.length : Int) then
                                        (Option.bind (data3[j.toNat]?) fun (e4 : Int × (List ((List UInt8) × (List UInt8))) × (List ((List UInt8) × Int))) =>
                                          (if 0 ≤ j ∧ j < (data3.length : Int) then
                                            (Option.bind (data3[j.toNat]?) fun (e5 : Int × (List ((List UInt8) × (List UInt8))) × (List ((List UInt8) × Int))) =>
                                              (if 0 ≤ (j - 1) ∧ (j - 1) < ((data3.set j.toNat e3).length : Int) then
                                                (Option.bind ((data3.set j.toNat e3)[(j - 1).toNat]?) fun (e6 : Int × (List ((List UInt8) × (List UInt8))) × (List ((List UInt8) × Int))) =>
                                                  (if fits (j - 1) then (go2 (((data3.set j.toNat e3).set (j - 1).toNat e4), a3, b3, cmp3, i2, (j - 1))) else none))
                                                else none))
                                            else none))
                                        else none))
                                    else none) else none) else none)
                              else
                              (if fits (i2 + 1) then (go (data3, a3, b3, cmp3, (i2 + 1))) else none))))
                        else none) else none))
                  else none)
                else
                (if fits (i2 + 1) then (go (data3, a3, b3, cmp3, (i2 + 1))) else none))) N (data2, a2, b2, cmp2, i, i))
          else
          (some data2))) N (data, a, b, cmp, (a + 1))) else none)
def k_slices_insertionSortCmpFunc_424_M (N : Nat) : Model := ⟨k_slices_insertionSortCmpFunc_424_arg, k_slices_insertionSortCmpFunc_424_ret, fun a => k_slices_insertionSortCmpFunc_424_m N a.1 a.2.1 a.2.2.1 a.2.2.2⟩
set_option maxRecDepth 1000000 in
theorem k_slices_insertionSortCmpFunc_424_ok (N : Nat) : ModelOk Try.prog 90 (k_slices_insertionSortCmpFunc_424_M N) :=
  modelOk_of (E := mkEnv [(59, i_SortOf_1_M N)] [] [800000]) (mkEnv_ok (fnsOk_cons (i_SortOf_1_ok N) fnsOk_nil) _ _) Try.func90 (by kernel_rfl) rfl N k_slices_insertionSortCmpFunc_424_h (k_slices_insertionSortCmpFunc_424_M N) (by kernel_rfl) (by kernel_rfl) (fun a => by kernel_rfl)
/-! slices.siftDownCmpFunc[loop.example/fossick/impl.Doc] -/
def k_slices_siftDownCmpFunc_993_arg : Sh := ⟨[.mtk 800000 (.pair (.int .i64) (.pair (.sl (.pair .str .str)) (.sl (.pair .str (.int .i64))))) 33 false, .pv (.int .i64), .pv (.int .i64), .pv (.int .i64), .clo 59 [.ptr (.sl (.pair .str .bool))]], []⟩
def k_slices_siftDownCmpFunc_993_ret : Sh := ⟨[.tup [], .mtk 800000 (.pair (.int .i64) (.pair (.sl (.pair .str .str)) (.sl (.pair .str (.int .i64))))) 33 false], []⟩
def k_slices_siftDownCmpFunc_993_s1 : Sh := ⟨[.mtk 800000 (.pair (.int .i64) (.pair (.sl (.pair .str .str)) (.sl (.pair .str (.int .i64))))) 33 false, .dead, .pv (.int .i64), .pv (.int .i64), .clo 59 [.ptr (.sl (.pair .str .bool))], .dead, .dead, .dead, .dead, .dead, .pv (.int .i64), .dead, .dead, .dead, .dead, .dead, .dead, .dead, .dead, .dead, .dead, .dead, .dead, .dead, .dead, .dead, .dead, .dead, .dead, .dead, .dead, .dead, .dead, .dead, .dead, .dead, .dead, .dead, .dead, .dead, .dead, .dead, .dead, .dead, .dead, .dead, .dead, .dead, .dead, .dead, .dead, .dead, .dead, .dead, .dead, .dead, .dead, .dead, .dead, .dead, .dead, .dead, .dead, .dead, .dead, .dead, .dead, .dead, .dead, .dead, .dead, .dead, .dead, .dead, .dead, .dead, .dead, .dead, .dead, .dead, .dead, .dead], []⟩
def k_slices_siftDownCmpFunc_993_s2 : Sh := ⟨[.mtk 800000 (.pair (.int .i64) (.pair (.sl (.pair .str .str)) (.sl (.pair .str (.int .i64))))) 33 false, .dead, .pv (.int .i64), .pv (.int .i64), .clo 59 [.ptr (.sl (.pair .str .bool))], .dead, .dead, .dead, .dead, .dead, .pv (.int .i64), .pv (.int .i64), .dead, .dead, .dead, .dead, .dead, .dead, .dead, .dead, .dead, .dead, .dead, .dead, .dead, .dead, .dead, .dead, .dead, .dead, .dead, .dead, .dead, .dead, .dead, .dead, .dead, .dead, .dead, .dead, .dead, .dead, .dead, .dead, .dead, .dead, .dead, .dead, .dead, .dead, .dead, .dead, .dead, .dead, .dead, .dead, .dead, .dead, .dead, .dead, .dead, .dead, .dead, .dead, .dead, .dead, .dead, .dead, .dead, .dead, .dead, .dead, .dead, .dead, .dead, .dead, .dead, .dead, .dead, .dead, .dead, .dead], []⟩
def k_slices_siftDownCmpFunc_993_h : Hint := (.seq .no (.block (.loop k_slices_siftDownCmpFunc_993_s1 (.block (.seq .no (.seq .no (.meet k_slices_siftDownCmpFunc_993_s2 .no .no)))))))
def k_slices_siftDownCmpFunc_993_m (N : Nat) (data : List (Int × (List ((List UInt8) × (List UInt8))) × (List ((List UInt8) × Int)))) (lo : Int) (hi : Int) (first : Int) (cmp : List ((List UInt8) × Bool)) : Option ((List (Int × (List ((List UInt8) × (List UInt8))) × (List ((List UInt8) × Int))))) :=
  (iter (fun (go : ((List (Int × (List ((List UInt8) × (List UInt8))) × (List ((List UInt8) × Int)))) × Int × Int × (List ((List UInt8) × Bool)) × Int) → Option ((List (Int × (List ((List UInt8) × (List UInt8))) × (List ((List UInt8) × Int)))))) (g : (List (Int × (List ((List UInt8) × (List UInt8))) × (List ((List UInt8) × Int)))) × Int × Int × (List ((List UInt8) × Bool)) × Int) => 
      match g with
      | (data2, hi2, first2, cmp2, root) =>
      (if fits (2 * root) then (if fits ((2 * root) + 1) then (bif (decide (hi2 ≤ ((2 * root) + 1))) then
            (some data2)
            else
            (meet (fun (g : (List (Int × (List ((List UInt8) × (List UInt8))) × (List ((List UInt8) × Int)))) × Int × Int × (List ((List UInt8) × Bool)) × Int × Int) => 
                match g with
                | (data3, hi3, first3, cmp3, root2, child) =>
                (if fits (first3 + root2) then (if 0 ≤ (first3 + root2) ∧ (first3 + root2) < (data3.length : Int) then
                    (Option.bind (data3[(first3 + root2).toNat]?) fun (e3 : Int × (List ((List UInt8) × (List UInt8))) × (List ((List UInt8) × Int))) =>
                      (if fits (first3 + child) then (if 0 ≤ (first3 + child) ∧ (first3 + child) < (data3.length : Int) then
                          (Option.bind (data3[(first3 + child).toNat]?) fun (e4 : Int × (List ((List UInt8) × (List UInt8))) × (List ((List UInt8) × Int))) =>
                            (Option.bind (i_SortOf_1_m N e3.1 e3.2.1 e3.2.2 e4.1 e4.2.1 e4.2.2 cmp3) fun (r2 : Int) =>
                              (bif (!(decide (r2 < 0))) then
                                (some data3)
                                else
                                (if fits (first3 + root2) then (if fits (first3 + child) then (if fits (first3 + child) then (if 0 ≤ (first3 + child) ∧ (first3 + child) < (data3.length : Int) then
                                        (Option.bind (data3[(first3 + child).toNat]?) fun (e5 : Int × (List ((List UInt8) × (List UInt8))) × (List ((List UInt8) × Int))) =>
                                          (if fits (first3 + root2) then (if 0 ≤ (first3 + root2) ∧ (first3 + root2) < (data3.length : Int) then
                                              (Option.bind (data3[(first3 + root2).toNat]?) fun (e6 : Int × (List ((List UInt8) × (List UInt8))) × (List ((List UInt8) × Int))) =>
                                                (if 0 ≤ (first3 + root2) ∧ (first3 + root2) < (data3.length : Int) then
                                                  (Option.bind (data3[(first3 + root2).toNat]?) fun (e7 : Int × (List ((List UInt8) × (List UInt8))) × (List ((List UInt8) × Int))) =>
                                                    (if 0 ≤ (first3 + child) ∧ (first3 + child) < ((data3.set (first3 + root2).toNat e5).length : Int) then
                                                      (Option.bind ((data3.set (first3 + root2).toNat e5)[(first3 + child).toNat]?) fun (e8 : Int × (List ((List UInt8) × (List UInt8))) × (List ((List UInt8) × Int))) =>
                                                        (go (((data3.set (first3 + root2).toNat e5).set (first3 + child).toNat e6), hi3, first3, cmp3, child)))
                                                      else none))
                                                  else none))
                                              else none) else none))
                                        else none) else none) else none) else none))))
                          else none) else none))
                    else none) else none)) fun (J : ((List (Int × (List ((List UInt8) × (List UInt8))) × (List ((List UInt8) × Int)))) × Int × Int × (List ((List UInt8) × Bool)) × Int × Int) → Option ((List (Int × (List ((List UInt8) × (List UInt8))) × (List ((List UInt8) × Int)))))) =>
              (if fits (((2 * root) + 1) + 1) then (bif (decide ((((2 * root) + 1) + 1) < hi2)) then
                  (if fits (first2 + ((2 * root) + 1)) then (if 0 ≤ (first2 + ((2 * root) + 1)) ∧ (first2 + ((2 * root) + 1)) < (data2.length : Int) then
                      (Option.bind (data2[(first2 + ((2 * root) + 1)).toNat]?) fun (e : Int × (List ((List UInt8) × (List UInt8))) × (List ((List UInt8) × Int))) =>
                        (if fits (first2 + ((2 * root) + 1)) then (if fits ((first2 + ((2 * root) + 1)) + 1) then (if 0 ≤ ((first2 + ((2 * root) + 1)) + 1) ∧ ((first2 + ((2 * root) + 1)) + 1) < (data2.length : Int) then
                              (Option.bind (data2[((first2 + ((2 * root) + 1)) + 1).toNat]?) fun (e2 : Int × (List ((List UInt8) × (List UInt8))) × (List ((List UInt8) × Int))) =>
                                (Option.bind (i_SortOf_1_m N e.1 e.2.1 e.2.2 e2.1 e2.2.1 e2.2.2 cmp2) fun (r : Int) =>
                                  (bif (decide (r < 0)) then
                                    (if fits (((2 * root) + 1) + 1) then (J (data2, hi2, first2, cmp2, root, (((2 * root) + 1) + 1))) else none)
                                    else
                                    (J (data2, hi2, first2, cmp2, root, ((2 * root) + 1))))))
                              else none) else none) else none))
                      else none) else none)
                  else
                  (J (data2, hi2, first2, cmp2, root, ((2 * root) + 1)))) else none))) else none) else none)) N (data, hi, first, cmp, lo))
def k_slices_siftDownCmpFunc_993_M (N : Nat) : Model := ⟨k_slices_siftDownCmpFunc_993_arg, k_slices_siftDownCmpFunc_993_ret, fun a => k_slices_siftDownCmpFunc_993_m N a.1 a.2.1 a.2.2.1 a.2.2.2.1 a.2.2.2.2⟩
set_option maxRecDepth 1000000 in
theorem k_slices_siftDownCmpFunc_993_ok (N : Nat) : ModelOk Try.prog 101 (k_slices_siftDownCmpFunc_993_M N) :=
  modelOk_of (E := mkEnv [(59, i_SortOf_1_M N)] [] [800000]) (mkEnv_ok (fnsOk_cons (i_SortOf_1_ok N) fnsOk_nil) _ _) Try.func101 (by kernel_rfl) rfl N k_slices_siftDownCmpFunc_993_h (k_slices_siftDownCmpFunc_993_M N) (by kernel_rfl) (by kernel_rfl) (fun a => by kernel_rfl)
/-! slices.heapSortCmpFunc[loop.example/fossick/impl.Doc] -/
def k_slices_heapSortCmpFunc_308_arg : Sh := ⟨[.mtk 800000 (.pair (.int .i64) (.pair (.sl (.pair .str .str)) (.sl (.pair .str (.int .i64))))) 33 false, .pv (.int .i64), .pv (.int .i64), .clo 59 [.ptr (.sl (.pair .str .bool))]], []⟩
def k_slices_heapSortCmpFunc_308_ret : Sh := ⟨[.tup [], .mtk 800000 (.pair (.int .i64) (.pair (.sl (.pair .str .str)) (.sl (.pair .str (.int .i64))))) 33 false], []⟩
def k_slices_heapSortCmpFunc_308_s1 : Sh := ⟨[.mtk 800000 (.pair (.int .i64) (.pair (.sl (.pair .str .str)) (.sl (.pair .str (.int .i64))))) 33 false, .dead, .dead, .clo 59 [.ptr (.sl (.pair .str .bool))], .dead, .dead, .dead, .dead, .pv (.int .i64), .pv (.int .i64), .pv (.int .i64), .pv (.int .i64), .dead, .dead, .dead, .dead, .dead, .dead, .dead, .dead, .dead, .dead, .dead, .dead, .dead, .dead, .dead, .dead, .dead, .dead, .dead, .dead, .dead, .dead, .dead, .dead, .dead, .dead, .dead, .dead, .dead, .dead, .dead, .dead, .dead, .dead, .dead, .dead, .dead, .dead, .dead, .dead, .dead, .dead, .dead, .dead, .dead, .dead, .dead, .dead], []⟩
def k_slices_heapSortCmpFunc_308_s2 : Sh := ⟨[.mtk 800000 (.pair (.int .i64) (.pair (.sl (.pair .str .str)) (.sl (.pair .str (.int .i64))))) 33 false, .dead, .dead, .clo 59 [.ptr (.sl (.pair .str .bool))], .dead, .dead, .dead, .dead, .pv (.int .i64), .pv (.int .i64), .dead, .dead, .pv (.int .i64), .dead, .dead, .dead, .dead, .dead, .dead, .dead, .dead, .dead, .dead, .dead, .dead, .dead, .dead, .dead, .dead, .dead, .dead, .dead, .dead, .dead, .dead, .dead, .dead, .dead, .dead, .dead, .dead, .dead, .dead, .dead, .dead, .dead, .dead, .dead, .dead, .dead, .dead, .dead, .dead, .dead, .dead, .dead, .dead, .dead, .dead, .dead], []⟩
def k_slices_heapSortCmpFunc_308_h : Hint := (.seq .no (.seq .no (.seq .no (.seq (.seq .no (.block (.loop k_slices_heapSortCmpFunc_308_s1 .no))) (.seq .no (.block (.loop k_slices_heapSortCmpFunc_308_s2 .no)))))))
def k_slices_heapSortCmpFunc_308_m (N : Nat) (data : List (Int × (List ((List UInt8) × (List UInt8))) × (List ((List UInt8) × Int)))) (a : Int) (b : Int) (cmp : List ((List UInt8) × Bool)) : Option ((List (Int × (List ((List UInt8) × (List UInt8))) × (List ((List UInt8) × Int))))) :=
  (if fits (b - a) then (if fits ((b - a) - 1) then (if 2 ≠ 0 then
        (if fits (((b - a) - 1).tdiv 2) then (iter (fun (go : ((List (Int × (List ((List UInt8) × (List UInt8))) × (List ((List UInt8) × Int)))) × (List ((List UInt8) × Bool)) × Int × Int × Int × Int) → Option ((List (Int × (List ((List UInt8) × (List UInt8))) × (List ((List UInt8) × Int)))))) (g : (List (Int × (List ((List UInt8) × (List UInt8))) × (List ((List UInt8) × Int)))) × (List ((List UInt8) × Bool)) × Int × Int × Int × Int) => 
              match g with
              | (data2, cmp2, first, lo, hi, i) =>
              (bif (decide ((0 : Int) ≤ i)) then
                (Option.bind (k_slices_siftDownCmpFunc_993_m N data2 i hi first cmp2) fun (r : (List (Int × (List ((List UInt8) × (List UInt8))) × (List ((List UInt8) × Int))))) =>
                  (if fits (i - 1) then (go (r, cmp2, first, lo, hi, (i - 1))) else none))
                else
                (if fits (hi - 1) then (iter (fun (go2 : ((List (Int × (List ((List UInt8) × (List UInt8))) × (List ((List UInt8) × Int)))) × (List ((List UInt8) × Bool)) × Int × Int × Int) → Option ((List (Int × (List ((List UInt8) × (List UInt8))) × (List ((List UInt8) × Int)))))) (g : (List (Int × (List ((List UInt8) × (List UInt8))) × (List ((List UInt8) × Int)))) × (List ((List UInt8) × Bool)) × Int × Int × Int) => 
                      match g with
                      | (data3, cmp3, first2, lo2, i2) =>
                      (bif (decide ((0 : Int) ≤ i2)) then
                        (if fits (first2 + i2) then (if fits (first2 + i2) then (if 0 ≤ (first2 + i2) ∧ (first2 + i2) < (data3.length : Int) then
                              (Option.bind (data3[(first2 + i2).toNat]?) fun (e : Int × (List ((List UInt8) × (List UInt8))) × (List ((List UInt8) × Int))) =>
                                (if 0 ≤ first2 ∧ first2 < (data3.length : Int) then
                                  (Option.bind (data3[first2.toNat]?) fun (e2 : Int × (List ((List UInt8) × (List UInt8))) × (List ((List UInt8) × Int))) =>
                                    (if 0 ≤ first2 ∧ first2 < (data3.length : Int) then
                                      (Option.bind (data3[first2.toNat]?) fun (e3 : Int × (List ((List UInt8) × (List UInt8))) × (List ((List UInt8) × Int))) =>
                                        (if 0 ≤ (first2 + i2) ∧ (first2 + i2) < ((data3.set first2.toNat e).length : Int) then
                                          (Option.bind ((data3.set first2.toNat e)[(first2 + i2).toNat]?) fun (e4 : Int × (List ((List UInt8) × (List UInt8))) × (List ((List UInt8) × Int))) =>
                                            (Option.bind (k_slices_siftDownCmpFunc_993_m N ((data3.set first2.toNat e).set (first2 + i2).toNat e2) lo2 i2 first2 cmp3) fun (r2 : (List (Int × (List ((List UInt8) × (List UInt8))) × (List ((List UInt8) × Int))))) =>
                                              (if fits (i2 - 1) then (go2 (r2, cmp3, first2, lo2, (i2 - 1))) else none)))
                                          else none))
                                      else none))
                                  else none))
                              else none) else none) else none)
                        else
                        (some data3))) N (data2, cmp2, first, lo, (hi - 1))) else none))) N (data, cmp, a, 0, (b - a), (((b - a) - 1).tdiv 2))) else none)
        else none) else none) else none)
def k_slices_heapSortCmpFunc_308_M (N : Nat) : Model := ⟨k_slices_heapSortCmpFunc_308_arg, k_slices_heapSortCmpFunc_308_ret, fun a => k_slices_heapSortCmpFunc_308_m N a.1 a.2.1 a.2.2.1 a.2.2.2⟩
set_option maxRecDepth 1000000 in
theorem k_slices_heapSortCmpFunc_308_ok (N : Nat) : ModelOk Try.prog 91 (k_slices_heapSortCmpFunc_308_M N) :=
  modelOk_of (E := mkEnv [(101, k_slices_siftDownCmpFunc_993_M N)] [] [800000]) (mkEnv_ok (fnsOk_cons (k_slices_siftDownCmpFunc_993_ok N) fnsOk_nil) _ _) Try.func91 (by kernel_rfl) rfl N k_slices_heapSortCmpFunc_308_h (k_slices_heapSortCmpFunc_308_M N) (by kernel_rfl) (by kernel_rfl) (fun a => by kernel_rfl)
/-! slices.nextPowerOfTwo -/
def k_slices_nextPowerOfTwo_arg : Sh := ⟨[.pv (.int .i64)], []⟩
def k_slices_nextPowerOfTwo_ret : Sh := ⟨[.pv (.int .u64)], []⟩
def k_slices_nextPowerOfTwo_h : Hint := .no
def k_slices_nextPowerOfTwo_m (N : Nat) (length : Int) : Option (Int) :=
  (Option.bind (k_math_bits_Len_m N (IntKind.u64.wrap length)) fun (r : Int) =>
    (if 0 ≤ r then
      (some (IntKind.u64.wrap ((1 : Int) * 2 ^ (min r.toNat (IntKind.bits .u64)))))
      else none))
def k_slices_nextPowerOfTwo_M (N : Nat) : Model := ⟨k_slices_nextPowerOfTwo_arg, k_slices_nextPowerOfTwo_ret, fun a => k_slices_nextPowerOfTwo_m N a⟩
set_option maxRecDepth 1000000 in
theorem k_slices_nextPowerOfTwo_ok (N : Nat) : ModelOk Try.prog 102 (k_slices_nextPowerOfTwo_M N) :=
  modelOk_of (E := mkEnv [(85, k_math_bits_Len_M N)] [] []) (mkEnv_ok (fnsOk_cons (k_math_bits_Len_ok N) fnsOk_nil) _ _) Try.func102 (by kernel_rfl) rfl N k_slices_nextPowerOfTwo_h (k_slices_nextPowerOfTwo_M N) (by kernel_rfl) (by kernel_rfl) (fun a => by kernel_rfl)
/-! (*slices.xorshift).Next -/
def k__slices_xorshift_Next_arg : Sh := ⟨[.box 900000 0], [(900000, false, [.pv (.int .u64)])]⟩
def k__slices_xorshift_Next_ret : Sh := ⟨[.pv (.int .u64)], [(900000, false, [.pv (.int .u64)])]⟩
def k__slices_xorshift_Next_h : Hint := .no
def k__slices_xorshift_Next_m (N : Nat) (b : Int) : Option (Int × Int) :=
  (if 0 ≤ (13 : Int) then
    (if 0 ≤ (7 : Int) then
      (if 0 ≤ (17 : Int) then
        (some ((bitsI .xor .u64 (bitsI .xor .u64 (bitsI .xor .u64 b (IntKind.u64.wrap (b * 2 ^ (min (13 : Int).toNat (IntKind.bits .u64))))) ((bitsI .xor .u64 b (IntKind.u64.wrap (b * 2 ^ (min (13 : Int).toNat (IntKind.bits .u64))))).fdiv (2 ^ (min (7 : Int).toNat (IntKind.bits .u64))))) (IntKind.u64.wrap ((bitsI .xor .u64 (bitsI .xor .u64 b (IntKind.u64.wrap (b * 2 ^ (min (13 : Int).toNat (IntKind.bits .u64))))) ((bitsI .xor .u64 b (IntKind.u64.wrap (b * 2 ^ (min (13 : Int).toNat (IntKind.bits .u64))))).fdiv (2 ^ (min (7 : Int).toNat (IntKind.bits .u64))))) * 2 ^ (min (17 : Int).toNat (IntKind.bits .u64))))), (bitsI .xor .u64 (bitsI .xor .u64 (bitsI .xor .u64 b (IntKind.u64.wrap (b * 2 ^ (min (13 : Int).toNat (IntKind.bits .u64))))) ((bitsI .xor .u64 b (IntKind.u64.wrap (b * 2 ^ (min (13 : Int).toNat (IntKind.bits .u64))))).fdiv (2 ^ (min (7 : Int).toNat (IntKind.bits .u64))))) (IntKind.u64.wrap ((bitsI .xor .u64 (bitsI .xor .u64 b (IntKind.u64.wrap (b * 2 ^ (min (13 : Int).toNat (IntKind.bits .u64))))) ((bitsI .xor .u64 b (IntKind.u64.wrap (b * 2 ^ (min (13 : Int).toNat (IntKind.bits .u64))))).fdiv (2 ^ (min (7 : Int).toNat (IntKind.bits .u64))))) * 2 ^ (min (17 : Int).toNat (IntKind.bits .u64)))))))
        else none)
      else none)
    else none)
def k__slices_xorshift_Next_M (N : Nat) : Model := ⟨k__slices_xorshift_Next_arg, k__slices_xorshift_Next_ret, fun a => k__slices_xorshift_Next_m N a⟩
set_option maxRecDepth 1000000 in
theorem k__slices_xorshift_Next_ok (N : Nat) : ModelOk Try.prog 103 (k__slices_xorshift_Next_M N) :=
  modelOk_of (E := mkEnv [] [] [900000]) (mkEnv_ok fnsOk_nil _ _) Try.func103 (by kernel_rfl) rfl N k__slices_xorshift_Next_h (k__slices_xorshift_Next_M N) (by kernel_rfl) (by kernel_rfl) (fun a => by kernel_rfl)
/-! slices.breakPatternsCmpFunc[loop.example/fossick/impl.Doc] -/
def k_slices_breakPatternsCmpFunc_337_arg : Sh := ⟨[.mtk 800000 (.pair (.int .i64) (.pair (.sl (.pair .str .str)) (.sl (.pair .str (.int .i64))))) 33 false, .pv (.int .i64), .pv (.int .i64), .clo 59 [.ptr (.sl (.pair .str .bool))]], []⟩
def k_slices_breakPatternsCmpFunc_337_ret : Sh := ⟨[.tup [], .mtk 800000 (.pair (.int .i64) (.pair (.sl (.pair .str .str)) (.sl (.pair .str (.int .i64))))) 33 false], []⟩
def k_slices_breakPatternsCmpFunc_337_s1 : Sh := ⟨[.mtk 800000 (.pair (.int .i64) (.pair (.sl (.pair .str .str)) (.sl (.pair .str (.int .i64))))) 33 false, .pv (.int .i64), .dead, .dead, .dead, .dead, .dead, .dead, .pv (.int .i64), .box 9 0, .pv (.int .u64), .pv (.int .i64), .dead, .dead, .dead, .dead, .dead, .dead, .dead, .dead, .dead, .dead, .dead, .dead, .dead, .dead, .dead, .dead, .dead, .dead, .dead, .dead, .dead, .dead, .dead, .dead, .dead, .dead, .dead, .dead, .dead, .dead, .dead, .dead, .dead, .dead, .dead, .dead, .dead, .dead, .dead, .dead, .dead, .dead, .dead, .dead, .dead, .dead, .dead, .dead, .dead, .dead, .dead, .dead, .dead, .dead, .dead], [(9, false, [.pv (.int .u64)])]⟩
def k_slices_breakPatternsCmpFunc_337_s2 : Sh := ⟨[.mtk 800000 (.pair (.int .i64) (.pair (.sl (.pair .str .str)) (.sl (.pair .str (.int .i64))))) 33 false, .pv (.int .i64), .dead, .dead, .dead, .dead, .dead, .dead, .pv (.int .i64), .box 9 0, .pv (.int .u64), .pv (.int .i64), .pv (.int .i64), .dead, .dead, .dead, .dead, .dead, .dead, .dead, .dead, .dead, .dead, .dead, .dead, .dead, .dead, .dead, .dead, .dead, .dead, .dead, .dead, .dead, .dead, .dead, .dead, .dead, .dead, .dead, .dead, .dead, .dead, .dead, .dead, .dead, .dead, .dead, .dead, .dead, .dead, .dead, .dead, .dead, .dead, .dead, .dead, .dead, .dead, .dead, .dead, .dead, .dead, .dead, .dead, .dead, .dead], [(9, false, [.pv (.int .u64)])]⟩
def k_slices_breakPatternsCmpFunc_337_h : Hint := (.seq .no (.seq .no (.cond (.seq .no (.seq .no (.seq .no (.block (.loop k_slices_breakPatternsCmpFunc_337_s1 (.seq .no (.seq (.block (.seq .no (.meet k_slices_breakPatternsCmpFunc_337_s2 .no .no))) .no))))))) .no)))
def k_slices_breakPatternsCmpFunc_337_m (N : Nat) (data : List (Int × (List ((List UInt8) × (List UInt8))) × (List ((List UInt8) × Int)))) (a : Int) (b : Int) (cmp : List ((List UInt8) × Bool)) : Option ((List (Int × (List ((List UInt8) × (List UInt8))) × (List ((List UInt8) × Int))))) :=
  (if fits (b - a) then (bif (decide ((8 : Int) ≤ (b - a))) then
      (Option.bind (k_slices_nextPowerOfTwo_m N (b - a)) fun (r : Int) =>
        (if 4 ≠ 0 then
          (if fits ((b - a).tdiv 4) then (if fits (((b - a).tdiv 4) * 2) then (if fits (a + (((b - a).tdiv 4) * 2)) then (if fits ((a + (((b - a).tdiv 4) * 2)) - 1) then (iter (fun (go : ((List (Int × (List ((List UInt8) × (List UInt8))) × (List ((List UInt8) × Int)))) × Int × Int × Int × Int × Int) → Option ((List (Int × (List ((List UInt8) × (List UInt8))) × (List ((List UInt8) × Int)))))) (g : (List (Int × (List ((List UInt8) × (List UInt8))) × (List ((List UInt8) × Int)))) × Int × Int × Int × Int × Int) => 
                      match g with
                      | (data2, a2, length, modulus, idx0, random) =>
                      (if 4 ≠ 0 then
                        (if fits (length.tdiv 4) then (if fits ((length.tdiv 4) * 2) then (if fits (a2 + ((length.tdiv 4) * 2)) then (if fits ((a2 + ((length.tdiv 4) * 2)) + 1) then (bif (decide (idx0 ≤ ((a2 + ((length.tdiv 4) * 2)) + 1))) then
                                  (Option.bind (k__slices_xorshift_Next_m N random) fun (r2 : Int × Int) =>
                                    (meet (fun (g : (List (Int × (List ((List UInt8) × (List UInt8))) × (List ((List UInt8) × Int)))) × Int × Int × Int × Int × Int × Int) => 
                                        match g with
                                        | (data3, a3, length2, modulus2, idx02, other, random2) =>
                                        (if fits (a3 + other) then (if fits (a3 + other) then (if 0 ≤ (a3 + other) ∧ (a3 + other) < (data3.length : Int) then
                                              (Option.bind (data3[(a3 + other).toNat]?) fun (e : Int × (List ((List UInt8) × (List UInt8))) × (List ((List UInt8) × Int))) =>
                                                (if 0 ≤ idx02 ∧ idx02 < (data3.length : Int) then
                                                  (Option.bind (data3[idx02.toNat]?) fun (e2 : Int × (List ((List UInt8) × (List UInt8))) × (List ((List UInt8) × Int))) =>
                                                    (if 0 ≤ idx02 ∧ idx02 < (data3.length : Int) then
                                                      (Option.bind (data3[idx02.toNat]?) fun (e3 : Int × (List ((List UInt8) × (List UInt8))) × (List ((List UInt8) × Int))) =>
                                                        (if 0 ≤ (a3 + other) ∧ (a3 + other) < ((data3.set idx02.toNat e).length : Int) then
                                                          (Option.bind ((data3.set idx02.toNat e)[(a3 + other).toNat]?) fun (e4 : Int × (List ((List UInt8) × (List UInt8))) × (List ((List UInt8) × Int))) =>
                                                            (if fits (idx02 + 1) then (go (((data3.set idx02.toNat e).set (a3 + other).toNat e2), a3, length2, modulus2, (idx02 + 1), random2)) else none))
                                                          else none))
                                                      else none))
                                                  else none))
                                              else none) else none) else none)) fun (J : ((List (Int × (List ((List UInt8) × (List UInt8))) × (List ((List UInt8) × Int)))) × Int × Int × Int × Int × Int × Int) → Option ((List (Int × (List ((List UInt8) × (List UInt8))) × (List ((List UInt8) × Int)))))) =>
                                      (bif (decide (length ≤ (IntKind.i64.wrap (bitsI .and .u64 r2.1 (IntKind.u64.wrap (modulus - 1)))))) then
                                        (if fits ((IntKind.i64.wrap (bitsI .and .u64 r2.1 (IntKind.u64.wrap (modulus - 1)))) - length) then (J (data2, a2, length, modulus, idx0, ((IntKind.i64.wrap (bitsI .and .u64 r2.1 (IntKind.u64.wrap (modulus - 1)))) - length), r2.2)) else none)
                                        else
                                        (J (data2, a2, length, modulus, idx0, (IntKind.i64.wrap (bitsI .and .u64 r2.1 (IntKind.u64.wrap (modulus - 1)))), r2.2)))))
                                  else
                                  (some data2)) else none) else none) else none) else none)
                        else none)) N (data, a, (b - a), r, ((a + (((b - a).tdiv 4) * 2)) - 1), (IntKind.u64.wrap (b - a)))) else none) else none) else none) else none)
          else none))
      else
      (some data)) else none)
def k_slices_breakPatternsCmpFunc_337_M (N : Nat) : Model := ⟨k_slices_breakPatternsCmpFunc_337_arg, k_slices_breakPatternsCmpFunc_337_ret, fun a => k_slices_breakPatternsCmpFunc_337_m N a.1 a.2.1 a.2.2.1 a.2.2.2⟩
set_option maxRecDepth 1000000 in
theorem k_slices_breakPatternsCmpFunc_337_ok (N : Nat) : ModelOk Try.prog 92 (k_slices_breakPatternsCmpFunc_337_M N) :=
  modelOk_of (E := mkEnv [(102, k_slices_nextPowerOfTwo_M N), (103, k__slices_xorshift_Next_M N)] [] [800000]) (mkEnv_ok (fnsOk_cons (k_slices_nextPowerOfTwo_ok N) (fnsOk_cons (k__slices_xorshift_Next_ok N) fnsOk_nil)) _ _) Try.func92 (by kernel_rfl) rfl N k_slices_breakPatternsCmpFunc_337_h (k_slices_breakPatternsCmpFunc_337_M N) (by kernel_rfl) (by kernel_rfl) (fun a => by kernel_rfl)
/-! slices.order2CmpFunc[loop.example/fossick/impl.Doc] -/
def k_slices_order2CmpFunc_852_arg : Sh := ⟨[.mtk 800000 (.pair (.int .i64) (.pair (.sl (.pair .str .str)) (.sl (.pair .str (.int .i64))))) 33 false, .pv (.int .i64), .pv (.int .i64), .box 900003 0, .clo 59 [.ptr (.sl (.pair .str .bool))]], [(900003, false, [.pv (.int .i64)])]⟩
def k_slices_order2CmpFunc_852_ret : Sh := ⟨[.tup [.pv (.int .i64), .pv (.int .i64)], .mtk 800000 (.pair (.int .i64) (.pair (.sl (.pair .str .str)) (.sl (.pair .str (.int .i64))))) 33 false], [(900003, false, [.pv (.int .i64)])]⟩
def k_slices_order2CmpFunc_852_h : Hint := .no
def k_slices_order2CmpFunc_852_m (N : Nat) (data : List (Int × (List ((List UInt8) × (List UInt8))) × (List ((List UInt8) × Int)))) (a : Int) (b : Int) (cmp : List ((List UInt8) × Bool)) (b2 : Int) : Option (Int × Int × (List (Int × (List ((List UInt8) × (List UInt8))) × (List ((List UInt8) × Int)))) × Int) :=
  (if 0 ≤ b ∧ b < (data.length : Int) then
    (Option.bind (data[b.toNat]?) fun (e : Int × (List ((List UInt8) × (List UInt8))) × (List ((List UInt8) × Int))) =>
      (if 0 ≤ a ∧ a < (data.length : Int) then
        (Option.bind (data[a.toNat]?) fun (e2 : Int × (List ((List UInt8) × (List UInt8))) × (List ((List UInt8) × Int))) =>
          (Option.bind (i_SortOf_1_m N e.1 e.2.1 e.2.2 e2.1 e2.2.1 e2.2.2 cmp) fun (r : Int) =>
            (bif (decide (r < 0)) then
              (if fits (b2 + 1) then (some (b, a, data, (b2 + 1))) else none)
              else
              (some (a, b, data, b2)))))
        else none))
    else none)
def k_slices_order2CmpFunc_852_M (N : Nat) : Model := ⟨k_slices_order2CmpFunc_852_arg, k_slices_order2CmpFunc_852_ret, fun a => k_slices_order2CmpFunc_852_m N a.1 a.2.1 a.2.2.1 a.2.2.2.1 a.2.2.2.2⟩
set_option maxRecDepth 1000000 in
theorem k_slices_order2CmpFunc_852_ok (N : Nat) : ModelOk Try.prog 106 (k_slices_order2CmpFunc_852_M N) :=
  modelOk_of (E := mkEnv [(59, i_SortOf_1_M N)] [] [900003, 800000]) (mkEnv_ok (fnsOk_cons (i_SortOf_1_ok N) fnsOk_nil) _ _) Try.func106 (by kernel_rfl) rfl N k_slices_order2CmpFunc_852_h (k_slices_order2CmpFunc_852_M N) (by kernel_rfl) (by kernel_rfl) (fun a => by kernel_rfl)
/-! slices.medianCmpFunc[loop.example/fossick/impl.Doc] -/
def k_slices_medianCmpFunc_506_arg : Sh := ⟨[.mtk 800000 (.pair (.int .i64) (.pair (.sl (.pair .str .str)) (.sl (.pair .str (.int .i64))))) 33 false, .pv (.int .i64), .pv (.int .i64), .pv (.int .i64), .box 900004 0, .clo 59 [.ptr (.sl (.pair .str .bool))]], [(900004, false, [.pv (.int .i64)])]⟩
def k_slices_medianCmpFunc_506_ret : Sh := ⟨[.pv (.int .i64), .mtk 800000 (.pair (.int .i64) (.pair (.sl (.pair .str .str)) (.sl (.pair .str (.int .i64))))) 33 false], [(900004, false, [.pv (.int .i64)])]⟩
def k_slices_medianCmpFunc_506_h : Hint := .no
def k_slices_medianCmpFunc_506_m (N : Nat) (data : List (Int × (List ((List UInt8) × (List UInt8))) × (List ((List UInt8) × Int)))) (a : Int) (b : Int) (c : Int) (cmp : List ((List UInt8) × Bool)) (b2 : Int) : Option (Int × (List (Int × (List ((List UInt8) × (List UInt8))) × (List ((List UInt8) × Int)))) × Int) :=
  (Option.bind (k_slices_order2CmpFunc_852_m N data a b cmp b2) fun (r : Int × Int × (List (Int × (List ((List UInt8) × (List UInt8))) × (List ((List UInt8) × Int)))) × Int) =>
    (Option.bind (k_slices_order2CmpFunc_852_m N r.2.2.1 r.2.1 c cmp r.2.2.2) fun (r2 : Int × Int × (List (Int × (List ((List UInt8) × (List UInt8))) × (List ((List UInt8) × Int)))) × Int) =>
      (Option.bind (k_slices_order2CmpFunc_852_m N r2.2.2.1 r.1 r2.1 cmp r2.2.2.2) fun (r3 : Int × Int × (List (Int × (List ((List UInt8) × (List UInt8))) × (List ((List UInt8) × Int)))) × Int) =>
        (some (r3.2.1, r3.2.2.1, r3.2.2.2)))))
def k_slices_medianCmpFunc_506_M (N : Nat) : Model := ⟨k_slices_medianCmpFunc_506_arg, k_slices_medianCmpFunc_506_ret, fun a => k_slices_medianCmpFunc_506_m N a.1 a.2.1 a.2.2.1 a.2.2.2.1 a.2.2.2.2.1 a.2.2.2.2.2⟩
set_option maxRecDepth 1000000 in
theorem k_slices_medianCmpFunc_506_ok (N : Nat) : ModelOk Try.prog 105 (k_slices_medianCmpFunc_506_M N) :=
  modelOk_of (E := mkEnv [(106, k_slices_order2CmpFunc_852_M N)] [] [900004, 800000]) (mkEnv_ok (fnsOk_cons (k_slices_order2CmpFunc_852_ok N) fnsOk_nil) _ _) Try.func105 (by kernel_rfl) rfl N k_slices_medianCmpFunc_506_h (k_slices_medianCmpFunc_506_M N) (by kernel_rfl) (by kernel_rfl) (fun a => by kernel_rfl)
/-! slices.medianAdjacentCmpFunc[loop.example/fossick/impl.Doc] -/
def k_slices_medianAdjacentCmpFunc_476_arg : Sh := ⟨[.mtk 800000 (.pair (.int .i64) (.pair (.sl (.pair .str .str)) (.sl (.pair .str (.int .i64))))) 33 false, .pv (.int .i64), .box 900002 0, .clo 59 [.ptr (.sl (.pair .str .bool))]], [(900002, false, [.pv (.int .i64)])]⟩
def k_slices_medianAdjacentCmpFunc_476_ret : Sh := ⟨[.pv (.int .i64), .mtk 800000 (.pair (.int .i64) (.pair (.sl (.pair .str .str)) (.sl (.pair .str (.int .i64))))) 33 false], [(900002, false, [.pv (.int .i64)])]⟩
def k_slices_medianAdjacentCmpFunc_476_h : Hint := .no
def k_slices_medianAdjacentCmpFunc_476_m (N : Nat) (data : List (Int × (List ((List UInt8) × (List UInt8))) × (List ((List UInt8) × Int)))) (a : Int) (cmp : List ((List UInt8) × Bool)) (b : Int) : Option (Int × (List (Int × (List ((List UInt8) × (List UInt8))) × (List ((List UInt8) × Int)))) × Int) :=
  (if fits (a - 1) then (if fits (a + 1) then (Option.bind (k_slices_medianCmpFunc_506_m N data (a - 1) a (a + 1) cmp b) fun (r : Int × (List (Int × (List ((List UInt8) × (List UInt8))) × (List ((List UInt8) × Int)))) × Int) =>
        (some (r.1, r.2.1, r.2.2))) else none) else none)
def k_slices_medianAdjacentCmpFunc_476_M (N : Nat) : Model := ⟨k_slices_medianAdjacentCmpFunc_476_arg, k_slices_medianAdjacentCmpFunc_476_ret, fun a => k_slices_medianAdjacentCmpFunc_476_m N a.1 a.2.1 a.2.2.1 a.2.2.2⟩
set_option maxRecDepth 1000000 in
theorem k_slices_medianAdjacentCmpFunc_476_ok (N : Nat) : ModelOk Try.prog 104 (k_slices_medianAdjacentCmpFunc_476_M N) :=
  modelOk_of (E := mkEnv [(105, k_slices_medianCmpFunc_506_M N)] [] [900002, 800000]) (mkEnv_ok (fnsOk_cons (k_slices_medianCmpFunc_506_ok N) fnsOk_nil) _ _) Try.func104 (by kernel_rfl) rfl N k_slices_medianAdjacentCmpFunc_476_h (k_slices_medianAdjacentCmpFunc_476_M N) (by kernel_rfl) (by kernel_rfl) (fun a => by kernel_rfl)
/-! slices.choosePivotCmpFunc[loop.example/fossick/impl.Doc] -/
def k_slices_choosePivotCmpFunc_156_arg : Sh := ⟨[.mtk 800000 (.pair (.int .i64) (.pair (.sl (.pair .str .str)) (.sl (.pair .str (.int .i64))))) 33 false, .pv (.int .i64), .pv (.int .i64), .clo 59 [.ptr (.sl (.pair .str .bool))]], []⟩
def k_slices_choosePivotCmpFunc_156_ret : Sh := ⟨[.tup [.pv (.int .i64), .pv (.int .i64)], .mtk 800000 (.pair (.int .i64) (.pair (.sl (.pair .str .str)) (.sl (.pair .str (.int .i64))))) 33 false], []⟩
def k_slices_choosePivotCmpFunc_156_s1 : Sh := ⟨[.mtk 800000 (.pair (.int .i64) (.pair (.sl (.pair .str .str)) (.sl (.pair .str (.int .i64))))) 33 false, .dead, .dead, .clo 59 [.ptr (.sl (.pair .str .bool))], .dead, .dead, .dead, .dead, .dead, .dead, .dead, .box 11 0, .pv (.int .i64), .pv (.int .i64), .pv (.int .i64), .dead, .dead, .dead, .dead, .dead, .dead, .dead, .dead, .dead, .dead, .dead, .dead, .dead, .dead, .dead, .dead, .dead, .dead, .dead, .dead, .dead, .dead, .dead, .dead, .dead, .dead, .dead, .dead, .dead, .dead, .dead, .dead, .dead, .dead, .dead, .dead, .dead, .dead, .dead, .dead, .dead, .dead, .dead, .dead, .dead, .dead, .dead, .dead], [(11, false, [.pv (.int .i64)])]⟩
def k_slices_choosePivotCmpFunc_156_s2 : Sh := ⟨[.mtk 800000 (.pair (.int .i64) (.pair (.sl (.pair .str .str)) (.sl (.pair .str (.int .i64))))) 33 false, .dead, .dead, .dead, .dead, .dead, .dead, .dead, .dead, .dead, .dead, .box 11 0, .dead, .pv (.int .i64), .dead, .dead, .dead, .dead, .dead, .dead, .dead, .dead, .dead, .dead, .dead, .dead, .dead, .dead, .dead, .dead, .dead, .dead, .dead, .dead, .dead, .dead, .dead, .dead, .dead, .dead, .dead, .dead, .dead, .dead, .dead, .dead, .dead, .dead, .dead, .dead, .dead, .dead, .dead, .dead, .dead, .dead, .dead, .dead, .dead, .dead, .dead, .dead, .dead], [(11, false, [.pv (.int .i64)])]⟩
def k_slices_choosePivotCmpFunc_156_h : Hint := (.seq .no (.seq .no (.seq .no (.seq .no (.seq .no (.seq .no (.meet k_slices_choosePivotCmpFunc_156_s2 (.seq .no (.cond (.meet k_slices_choosePivotCmpFunc_156_s1 .no .no) .no)) .no)))))))
def k_slices_choosePivotCmpFunc_156_m (N : Nat) (data : List (Int × (List ((List UInt8) × (List UInt8))) × (List ((List UInt8) × Int)))) (a : Int) (b : Int) (cmp : List ((List UInt8) × Bool)) : Option (Int × Int × (List (Int × (List ((List UInt8) × (List UInt8))) × (List ((List UInt8) × Int))))) :=
  (if fits (b - a) then (if 4 ≠ 0 then
      (if fits ((b - a).tdiv 4) then (if fits (((b - a).tdiv 4) * 1) then (if fits (a + (((b - a).tdiv 4) * 1)) then (if 4 ≠ 0 then
              (if fits ((b - a).tdiv 4) then (if fits (((b - a).tdiv 4) * 2) then (if fits (a + (((b - a).tdiv 4) * 2)) then (if 4 ≠ 0 then
                      (if fits ((b - a).tdiv 4) then (if fits (((b - a).tdiv 4) * 3) then (if fits (a + (((b - a).tdiv 4) * 3)) then (meet (fun (g : (List (Int × (List ((List UInt8) × (List UInt8))) × (List ((List UInt8) × Int)))) × Int × Int) => 
                                match g with
                                | (data3, j2, swaps2) =>
                                (bif (decide (swaps2 = 0)) then
                                  (some (j2, 1, data3))
                                  else
                                  (bif (decide (swaps2 = 12)) then
                                    (some (j2, 2, data3))
                                    else
                                    (some (j2, 0, data3))))) fun (J : ((List (Int × (List ((List UInt8) × (List UInt8))) × (List ((List UInt8) × Int)))) × Int × Int) → Option (Int × Int × (List (Int × (List ((List UInt8) × (List UInt8))) × (List ((List UInt8) × Int)))))) =>
                              (bif (decide ((8 : Int) ≤ (b - a))) then
                                (meet (fun (g : (List (Int × (List ((List UInt8) × (List UInt8))) × (List ((List UInt8) × Int)))) × (List ((List UInt8) × Bool)) × Int × Int × Int × Int) => 
                                    match g with
                                    | (data2, cmp2, i, j, k, swaps) =>
                                    (Option.bind (k_slices_medianCmpFunc_506_m N data2 i j k cmp2 swaps) fun (r4 : Int × (List (Int × (List ((List UInt8) × (List UInt8))) × (List ((List UInt8) × Int)))) × Int) =>
                                      (J (r4.2.1, r4.1, r4.2.2)))) fun (J2 : ((List (Int × (List ((List UInt8) × (List UInt8))) × (List ((List UInt8) × Int)))) × (List ((List UInt8) × Bool)) × Int × Int × Int × Int) → Option (Int × Int × (List (Int × (List ((List UInt8) × (List UInt8))) × (List ((List UInt8) × Int)))))) =>
                                  (bif (decide ((50 : Int) ≤ (b - a))) then
                                    (Option.bind (k_slices_medianAdjacentCmpFunc_476_m N data (a + (((b - a).tdiv 4) * 1)) cmp 0) fun (r : Int × (List (Int × (List ((List UInt8) × (List UInt8))) × (List ((List UInt8) × Int)))) × Int) =>
                                      (Option.bind (k_slices_medianAdjacentCmpFunc_476_m N r.2.1 (a + (((b - a).tdiv 4) * 2)) cmp r.2.2) fun (r2 : Int × (List (Int × (List ((List UInt8) × (List UInt8))) × (List ((List UInt8) × Int)))) × Int) =>
                                        (Option.bind (k_slices_medianAdjacentCmpFunc_476_m N r2.2.1 (a + (((b - a).tdiv 4) * 3)) cmp r2.2.2) fun (r3 : Int × (List (Int × (List ((List UInt8) × (List UInt8))) × (List ((List UInt8) × Int)))) × Int) =>
                                          (J2 (r3.2.1, cmp, r.1, r2.1, r3.1, r3.2.2)))))
                                    else
                                    (J2 (data, cmp, (a + (((b - a).tdiv 4) * 1)), (a + (((b - a).tdiv 4) * 2)), (a + (((b - a).tdiv 4) * 3)), 0))))
                                else
                                (J (data, (a + (((b - a).tdiv 4) * 2)), 0)))) else none) else none) else none)
                      else none) else none) else none) else none)
              else none) else none) else none) else none)
      else none) else none)
def k_slices_choosePivotCmpFunc_156_M (N : Nat) : Model := ⟨k_slices_choosePivotCmpFunc_156_arg, k_slices_choosePivotCmpFunc_156_ret, fun a => k_slices_choosePivotCmpFunc_156_m N a.1 a.2.1 a.2.2.1 a.2.2.2⟩
set_option maxRecDepth 1000000 in
theorem k_slices_choosePivotCmpFunc_156_ok (N : Nat) : ModelOk Try.prog 93 (k_slices_choosePivotCmpFunc_156_M N) :=
  modelOk_of (E := mkEnv [(104, k_slices_medianAdjacentCmpFunc_476_M N), (105, k_slices_medianCmpFunc_506_M N)] [] [800000]) (mkEnv_ok (fnsOk_cons (k_slices_medianAdjacentCmpFunc_476_ok N) (fnsOk_cons (k_slices_medianCmpFunc_506_ok N) fnsOk_nil)) _ _) Try.func93 (by kernel_rfl) rfl N k_slices_choosePivotCmpFunc_156_h (k_slices_choosePivotCmpFunc_156_M N) (by kernel_rfl) (by kernel_rfl) (fun a => by kernel_rfl)
/-! slices.reverseRangeCmpFunc[loop.example/fossick/impl.Doc] -/
def k_slices_reverseRangeCmpFunc_583_arg : Sh := ⟨[.mtk 800000 (.pair (.int .i64) (.pair (.sl (.pair .str .str)) (.sl (.pair .str (.int .i64))))) 33 false, .pv (.int .i64), .pv (.int .i64), .clo 59 [.ptr (.sl (.pair .str .bool))]], []⟩
def k_slices_reverseRangeCmpFunc_583_ret : Sh := ⟨[.tup [], .mtk 800000 (.pair (.int .i64) (.pair (.sl (.pair .str .str)) (.sl (.pair .str (.int .i64))))) 33 false], []⟩
def k_slices_reverseRangeCmpFunc_583_s1 : Sh := ⟨[.mtk 800000 (.pair (.int .i64) (.pair (.sl (.pair .str .str)) (.sl (.pair .str (.int .i64))))) 33 false, .dead, .dead, .dead, .dead, .dead, .dead, .dead, .pv (.int .i64), .pv (.int .i64), .dead, .dead, .dead, .dead, .dead, .dead, .dead, .dead, .dead, .dead, .dead, .dead, .dead, .dead, .dead, .dead, .dead, .dead, .dead, .dead, .dead, .dead, .dead, .dead], []⟩
def k_slices_reverseRangeCmpFunc_583_h : Hint := (.seq .no (.seq .no (.block (.loop k_slices_reverseRangeCmpFunc_583_s1 .no))))
def k_slices_reverseRangeCmpFunc_583_m (N : Nat) (data : List (Int × (List ((List UInt8) × (List UInt8))) × (List ((List UInt8) × Int)))) (a : Int) (b : Int) (cmp : List ((List UInt8) × Bool)) : Option ((List (Int × (List ((List UInt8) × (List UInt8))) × (List ((List UInt8) × Int))))) :=
  (if fits (b - 1) then (iter (fun (go : ((List (Int × (List ((List UInt8) × (List UInt8))) × (List ((List UInt8) × Int)))) × Int × Int) → Option ((List (Int × (List ((List UInt8) × (List UInt8))) × (List ((List UInt8) × Int)))))) (g : (List (Int × (List ((List UInt8) × (List UInt8))) × (List ((List UInt8) × Int)))) × Int × Int) => 
        match g with
        | (data2, i, j) =>
        (bif (decide (i < j)) then
          (if 0 ≤ j ∧ j < (data2.length : Int) then
            (Option.bind (data2[j.toNat]?) fun (e : Int × (List ((List UInt8) × (List UInt8))) × (List ((List UInt8) × Int))) =>
              (if 0 ≤ i ∧ i < (data2.length : Int) then
                (Option.bind (data2[i.toNat]?) fun (e2 : Int × (List ((List UInt8) × (List UInt8))) × (List ((List UInt8) × Int))) =>
                  (if 0 ≤ i ∧ i < (data2.length : Int) then
                    (Option.bind (data2[i.toNat]?) fun (e3 : Int × (List ((List UInt8) × (List UInt8))) × (List ((List UInt8) × Int))) =>
                      (if 0 ≤ j ∧ j < ((data2.set i.toNat e).length : Int) then
                        (Option.bind ((data2.set i.toNat e)[j.toNat]?) fun (e4 : Int × (List ((List UInt8) × (List UInt8))) × (List ((List UInt8) × Int))) =>
                          (if fits (i + 1) then (if fits (j - 1) then (go (((data2.set i.toNat e).set j.toNat e2), (i + 1), (j - 1))) else none) else none))
                        else none))
                    else none))
                else none))
            else none)
          else
          (some data2))) N (data, a, (b - 1))) else none)
def k_slices_reverseRangeCmpFunc_583_M (N : Nat) : Model := ⟨k_slices_reverseRangeCmpFunc_583_arg, k_slices_reverseRangeCmpFunc_583_ret, fun a => k_slices_reverseRangeCmpFunc_583_m N a.1 a.2.1 a.2.2.1 a.2.2.2⟩
set_option maxRecDepth 1000000 in
theorem k_slices_reverseRangeCmpFunc_583_ok (N : Nat) : ModelOk Try.prog 94 (k_slices_reverseRangeCmpFunc_583_M N) :=
  modelOk_of (E := mkEnv [] [] [800000]) (mkEnv_ok fnsOk_nil _ _) Try.func94 (by kernel_rfl) rfl N k_slices_reverseRangeCmpFunc_583_h (k_slices_reverseRangeCmpFunc_583_M N) (by kernel_rfl) (by kernel_rfl) (fun a => by kernel_rfl)
/-! slices.partialInsertionSortCmpFunc[loop.example/fossick/impl.Doc] -/
def k_slices_partialInsertionSortCmpFunc_281_arg : Sh := ⟨[.mtk 800000 (.pair (.int .i64) (.pair (.sl (.pair .str .str)) (.sl (.pair .str (.int .i64))))) 33 false, .pv (.int .i64), .pv (.int .i64), .clo 59 [.ptr (.sl (.pair .str .bool))]], []⟩
def k_slices_partialInsertionSortCmpFunc_281_ret : Sh := ⟨[.pv .bool, .mtk 800000 (.pair (.int .i64) (.pair (.sl (.pair .str .str)) (.sl (.pair .str (.int .i64))))) 33 false], []⟩
def k_slices_partialInsertionSortCmpFunc_281_s1 : Sh := ⟨[.mtk 800000 (.pair (.int .i64) (.pair (.sl (.pair .str .str)) (.sl (.pair .str (.int .i64))))) 33 false, .pv (.int .i64), .pv (.int .i64), .clo 59 [.ptr (.sl (.pair .str .bool))], .dead, .dead, .dead, .dead, .dead, .pv (.int .i64), .pv (.int .i64), .dead, .dead, .dead, .dead, .dead, .dead, .dead, .dead, .dead, .dead, .dead, .dead, .dead, .dead, .dead, .dead, .dead, .dead, .dead, .dead, .dead, .dead, .dead, .dead, .dead, .dead, .dead, .dead, .dead, .dead, .dead, .dead, .dead, .dead, .dead, .dead, .dead, .dead, .dead, .dead, .dead, .dead, .dead, .dead, .dead, .dead, .dead, .dead, .dead, .dead, .dead, .dead, .dead, .dead, .dead, .dead, .dead, .dead, .dead, .dead, .dead, .dead, .dead, .dead, .dead, .dead, .dead, .dead, .dead, .dead, .dead, .dead, .dead, .dead, .dead, .dead, .dead, .dead, .dead, .dead, .dead, .dead, .dead, .dead, .dead, .dead, .dead, .dead, .dead, .dead, .dead, .dead, .dead, .dead, .dead, .dead, .dead, .dead, .dead, .dead, .dead, .dead, .dead, .dead, .dead, .dead, .dead, .dead, .dead, .dead, .dead, .dead, .dead, .dead, .dead, .dead, .dead, .dead, .dead, .dead, .dead, .dead, .dead, .dead, .dead, .dead, .dead, .dead, .dead, .dead], []⟩
def k_slices_partialInsertionSortCmpFunc_281_s2 : Sh := ⟨[.mtk 800000 (.pair (.int .i64) (.pair (.sl (.pair .str .str)) (.sl (.pair .str (.int .i64))))) 33 false, .pv (.int .i64), .pv (.int .i64), .clo 59 [.ptr (.sl (.pair .str .bool))], .dead, .dead, .dead, .dead, .dead, .pv (.int .i64), .pv (.int .i64), .dead, .dead, .dead, .dead, .dead, .dead, .dead, .dead, .dead, .dead, .dead, .dead, .dead, .dead, .dead, .dead, .dead, .dead, .dead, .dead, .dead, .dead, .dead, .dead, .dead, .dead, .dead, .dead, .dead, .dead, .dead, .dead, .dead, .dead, .dead, .dead, .dead, .dead, .dead, .dead, .dead, .dead, .dead, .dead, .dead, .dead, .dead, .dead, .dead, .dead, .dead, .dead, .dead, .dead, .dead, .dead, .dead, .dead, .dead, .dead, .dead, .dead, .dead, .dead, .dead, .dead, .dead, .dead, .dead, .dead, .dead, .dead, .dead, .dead, .dead, .dead, .dead, .dead, .dead, .dead, .dead, .dead, .dead, .dead, .dead, .dead, .dead, .dead, .dead, .dead, .dead, .dead, .dead, .dead, .dead, .dead, .dead, .dead, .dead, .dead, .dead, .dead, .dead, .dead, .dead, .dead, .dead, .dead, .dead, .dead, .dead, .dead, .dead, .dead, .dead, .dead, .dead, .dead, .dead, .dead, .dead, .dead, .dead, .dead, .dead, .dead, .dead, .dead, .dead, .dead], []⟩
def k_slices_partialInsertionSortCmpFunc_281_s3 : Sh := ⟨[.mtk 800000 (.pair (.int .i64) (.pair (.sl (.pair .str .str)) (.sl (.pair .str (.int .i64))))) 33 false, .pv (.int .i64), .pv (.int .i64), .clo 59 [.ptr (.sl (.pair .str .bool))], .dead, .dead, .dead, .dead, .dead, .pv (.int .i64), .pv (.int .i64), .pv (.int .i64), .dead, .dead, .dead, .dead, .dead, .dead, .dead, .dead, .dead, .dead, .dead, .dead, .dead, .dead, .dead, .dead, .dead, .dead, .dead, .dead, .dead, .dead, .dead, .dead, .dead, .dead, .dead, .dead, .dead, .dead, .dead, .dead, .dead, .dead, .dead, .dead, .dead, .dead, .dead, .dead, .dead, .dead, .dead, .dead, .dead, .dead, .dead, .dead, .dead, .dead, .dead, .dead, .dead, .dead, .dead, .dead, .dead, .dead, .dead, .dead, .dead, .dead, .dead, .dead, .dead, .dead, .dead, .dead, .dead, .dead, .dead, .dead, .dead, .dead, .dead, .dead, .dead, .dead, .dead, .dead, .dead, .dead, .dead, .dead, .dead, .dead, .dead, .dead, .dead, .dead, .dead, .dead, .dead, .dead, .dead, .dead, .dead, .dead, .dead, .dead, .dead, .dead, .dead, .dead, .dead, .dead, .dead, .dead, .dead, .dead, .dead, .dead, .dead, .dead, .dead, .dead, .dead, .dead, .dead, .dead, .dead, .dead, .dead, .dead, .dead, .dead, .dead, .dead, .dead], []⟩
def k_slices_partialInsertionSortCmpFunc_281_s4 : Sh := ⟨[.mtk 800000 (.pair (.int .i64) (.pair (.sl (.pair .str .str)) (.sl (.pair .str (.int .i64))))) 33 false, .pv (.int .i64), .pv (.int .i64), .clo 59 [.ptr (.sl (.pair .str .bool))], .dead, .dead, .dead, .dead, .dead, .pv (.int .i64), .pv (.int .i64), .dead, .pv (.int .i64), .dead, .dead, .dead, .dead, .dead, .dead, .dead, .dead, .dead, .dead, .dead, .dead, .dead, .dead, .dead, .dead, .dead, .dead, .dead, .dead, .dead, .dead, .dead, .dead, .dead, .dead, .dead, .dead, .dead, .dead, .dead, .dead, .dead, .dead, .dead, .dead, .dead, .dead, .dead, .dead, .dead, .dead, .dead, .dead, .dead, .dead, .dead, .dead, .dead, .dead, .dead, .dead, .dead, .dead, .dead, .dead, .dead, .dead, .dead, .dead, .dead, .dead, .dead, .dead, .dead, .dead, .dead, .dead, .dead, .dead, .dead, .dead, .dead, .dead, .dead, .dead, .dead, .dead, .dead, .dead, .dead, .dead, .dead, .dead, .dead, .dead, .dead, .dead, .dead, .dead, .dead, .dead, .dead, .dead, .dead, .dead, .dead, .dead, .dead, .dead, .dead, .dead, .dead, .dead, .dead, .dead, .dead, .dead, .dead, .dead, .dead, .dead, .dead, .dead, .dead, .dead, .dead, .dead, .dead, .dead, .dead, .dead, .dead, .dead, .dead, .dead, .dead, .dead], []⟩
def k_slices_partialInsertionSortCmpFunc_281_s5 : Sh := ⟨[.mtk 800000 (.pair (.int .i64) (.pair (.sl (.pair .str .str)) (.sl (.pair .str (.int .i64))))) 33 false, .pv (.int .i64), .pv (.int .i64), .clo 59 [.ptr (.sl (.pair .str .bool))], .dead, .dead, .dead, .dead, .dead, .pv (.int .i64), .pv (.int .i64), .dead, .dead, .dead, .dead, .dead, .dead, .dead, .dead, .dead, .dead, .dead, .dead, .dead, .dead, .dead, .dead, .dead, .dead, .dead, .dead, .dead, .dead, .dead, .dead, .dead, .dead, .dead, .dead, .dead, .dead, .dead, .dead, .dead, .dead, .dead, .dead, .dead, .dead, .dead, .dead, .dead, .dead, .dead, .dead, .dead, .dead, .dead, .dead, .dead, .dead, .dead, .dead, .dead, .dead, .dead, .dead, .dead, .dead, .dead, .dead, .dead, .dead, .dead, .dead, .dead, .dead, .dead, .dead, .dead, .dead, .dead, .dead, .dead, .dead, .dead, .dead, .dead, .dead, .dead, .dead, .dead, .dead, .dead, .dead, .dead, .dead, .dead, .dead, .dead, .dead, .dead, .dead, .dead, .dead, .dead, .dead, .dead, .dead, .dead, .dead, .dead, .dead, .dead, .dead, .dead, .dead, .dead, .dead, .dead, .dead, .dead, .dead, .dead, .dead, .dead, .dead, .dead, .dead, .dead, .dead, .dead, .dead, .dead, .dead, .dead, .dead, .dead, .dead, .dead, .dead], []⟩
def k_slices_partialInsertionSortCmpFunc_281_h : Hint := (.seq .no (.seq .no (.seq (.seq .no (.block (.loop k_slices_partialInsertionSortCmpFunc_281_s1 (.seq .no (.seq (.block (.seq (.block (.loop k_slices_partialInsertionSortCmpFunc_281_s2 .no)) (.seq .no (.seq .no (.seq .no (.meet k_slices_partialInsertionSortCmpFunc_281_s5 (.seq .no (.cond (.seq .no (.block (.loop k_slices_partialInsertionSortCmpFunc_281_s3 .no))) .no)) (.seq .no (.cond (.seq .no (.block (.loop k_slices_partialInsertionSortCmpFunc_281_s4 .no))) .no)))))))) .no))))) .no)))
def k_slices_partialInsertionSortCmpFunc_281_m (N : Nat) (data : List (Int × (List ((List UInt8) × (List UInt8))) × (List ((List UInt8) × Int)))) (a : Int) (b : Int) (cmp : List ((List UInt8) × Bool)) : Option (Bool × (List (Int × (List ((List UInt8) × (List UInt8))) × (List ((List UInt8) × Int))))) :=
  (if fits (a + 1) then (iter (fun (go : ((List (Int × (List ((List UInt8) × (List UInt8))) × (List ((List UInt8) × Int)))) × Int × Int × (List ((List UInt8) × Bool)) × Int × Int) → Option (Bool × (List (Int × (List ((List UInt8) × (List UInt8))) × (List ((List UInt8) × Int)))))) (g : (List (Int × (List ((List UInt8) × (List UInt8))) × (List ((List UInt8) × Int)))) × Int × Int × (List ((List UInt8) × Bool)) × Int × Int) => 
        match g with
        | (data2, a2, b2, cmp2, i, j) =>
        (bif (decide (j < 5)) then
          (iter (fun (go2 : ((List (Int × (List ((List UInt8) × (List UInt8))) × (List ((List UInt8) × Int)))) × Int × Int × (List ((List UInt8) × Bool)) × Int × Int) → Option (Bool × (List (Int × (List ((List UInt8) × (List UInt8))) × (List ((List UInt8) × Int)))))) (g : (List (Int × (List ((List UInt8) × (List UInt8))) × (List ((List UInt8) × Int)))) × Int × Int × (List ((List UInt8) × Bool)) × Int × Int) => 
              match g with
              | (data3, a3, b3, cmp3, i2, j2) =>
              (bif (decide (i2 < b3)) then
                (if 0 ≤ i2 ∧ i2 < (data3.length : Int) then
                  (Option.bind (data3[i2.toNat]?) fun (e : Int × (List ((List UInt8) × (List UInt8))) × (List ((List UInt8) × Int))) =>
                    (if fits (i2 - 1) then (if 0 ≤ (i2 - 1) ∧ (i2 - 1) < (data3.length : Int) then
                        (Option.bind (data3[(i2 - 1).toNat]?) fun (e2 : Int × (List ((List UInt8) × (List UInt8))) × (List ((List UInt8) × Int))) =>
                          (Option.bind (i_SortOf_1_m N e.1 e.2.1 e.2.2 e2.1 e2.2.1 e2.2.2 cmp3) fun (r : Int) =>
                            (bif (!(decide (r < 0))) then
                              (if fits (i2 + 1) then (go2 (data3, a3, b3, cmp3, (i2 + 1), j2)) else none)
                              else
                              (bif (decide (i2 = b3)) then
                                (some (true, data3))
                                else
                                (if fits (b3 - a3) then (bif (decide ((b3 - a3) < 50)) then
                                    (some (false, data3))
                                    else
                                    (if fits (i2 - 1) then (if fits (i2 - 1) then (if 0 ≤ (i2 - 1) ∧ (i2 - 1) < (data3.length : Int) then
                                          (Option.bind (data3[(i2 - 1).toNat]?) fun (e3 : Int × (List ((List UInt8) × (List UInt8))) × (List ((List UInt8) × Int))) =>
                                            (if 0 ≤ i2 ∧ i2 < (data3.length : Int) then
                                              (Option.bind (data3[i2.toNat]?) fun (e4 : Int × (List ((List UInt8) × (List UInt8))) × (List ((List UInt8) × Int))) =>
                                                (if 0 ≤ i2 ∧ i2 < (data3.length : Int) then
                                                  (Option.bind (data3[i2.toNat]?) fun (e5 : Int × (List ((List UInt8) × (List UInt8))) × (List ((List UInt8) × Int))) =>
                                                    (if 0 ≤ (i2 - 1) ∧ (i2 - 1) < ((data3.set i2.toNat e3).length : Int) then
                                                      (Option.bind ((data3.set i2.toNat e3)[(i2 - 1).toNat]?) fun (e6 : Int × (List ((List UInt8) × (List UInt8))) × (List ((List UInt8) × Int))) =>
                                                        (meet (fun (g : (List (Int × (List ((List UInt8) × (List UInt8))) × (List ((List UInt8) × Int)))) × Int × Int × (List ((List UInt8) × Bool)) × Int × Int) => 
                                                            match g with
                                                            | (data5, a5, b5, cmp5, i4, j5) =>
                                                            (if fits (b5 - i4) then (bif (decide ((2 : Int) ≤ (b5 - i4))) then
                                                                (if fits (i4 + 1) then (iter (fun (go4 : ((List (Int × (List ((List UInt8) × (List UInt8))) × (List ((List UInt8) × Int)))) × Int × Int × (List ((List UInt8) × Bool)) × Int × Int × Int) → Option (Bool × (List (Int × (List ((List UInt8) × (List UInt8))) × (List ((List UInt8) × Int)))))) (g : (List (Int × (List ((List UInt8) × (List UInt8))) × (List ((List UInt8) × Int)))) × Int × Int × (List ((List UInt8) × Bool)) × Int × Int × Int) => 
                                                                      match g with
                                                                      | (data6, a6, b6, cmp6, i5, j6, j7) =>
                                                                      (bif (decide (j7 < b6)) then
                                                                        (if 0 ≤ j7 ∧ j7 < (data6.length : Int) then
                                                                          (Option.bind (data6[j7.toNat]?) fun (e13 : Int × (List ((List UInt8) × (List UInt8))) × (List ((List UInt8) × Int))) =>
                                                                            (if fits (j7 - 1) then (if 0 ≤ (j7 - 1) ∧ (j7 - 1) < (data6.length : Int) then
                                                                                (Option.bind (data6[(j7 - 1).toNat]?) fun (e14 : Int × (List ((List UInt8) × (List UInt8))) × (List ((List UInt8) × Int))) =>
                                                                                (Option.bind (i_SortOf_1_m N e13.1 e13.2.1 e13.2.2 e14.1 e14.2.1 e14.2.2 cmp6) fun (r3 : Int) =>
                                                                                (bif (!(decide (r3 < 0))) then
                                                                                (if fits (j6 + 1) then (go (data6, a6, b6, cmp6, i5, (j6 + 1))) else none)
                                                                                else
                                                                                (if fits (j7 - 1) then (if fits (j7 - 1) then (if 0 ≤ (j7 - 1) ∧ (j7 - 1) < (data6.length : Int) then
                                                                                (Option.bind (data6[(j7 - 1).toNat]?) fun (e15 : Int × (List ((List UInt8) × (List UInt8))) × (List ((List UInt8) × Int))) =>
                                                                                (if 0 ≤ j7 ∧ j7 < (data6.length : Int) then
                                                                                (Option.bind (data6[j7.toNat]?) fun (e16 : Int × (List ((List UInt8) × (List UInt8))) × (List ((List UInt8) × Int))) =>
                                                                                (if 0 ≤ j7 ∧ j7 < (data6.length : Int) then
                                                                                (Option.bind (data6[j7.toNat]?) fun (e17 : Int × (List ((List UInt8) × (List UInt8))) × (List ((List UInt8) × Int))) =>
                                                                                (if 0 ≤ (j7 - 1) ∧ (j7 - 1) < ((data6.set j7.toNat e15).length : Int) then
                                                                                (Option.bind ((data6.set j7.toNat e15)[(j7 - 1).toNat]?) fun (e18 : Int × (List ((List UInt8) × (List UInt8))) × (List ((List UInt8) × Int))) =>
                                                                                (if fits (j7 + 1) then (go4 (((data6.set j7.toNat e15).set (j7 - 1).toNat e16), a6, b6, cmp6, i5, j6, (j7 + 1))) else none))
                                                                                else none))
                                                                                else none))
                                                                                else none))
                                                                                else none) else none) else none))))
                                                                                else none) else none))
                                                                          else none)
                                                                        else
                                                                        (if fits (j6 + 1) then (go (data6, a6, b6, cmp6, i5, (j6 + 1))) else none))) N (data5, a5, b5, cmp5, i4, j5, (i4 + 1))) else none)
                                                                else
                                                                (if fits (j5 + 1) then (go (data5, a5, b5, cmp5, i4, (j5 + 1))) else none)) else none)) fun (J : ((List (Int × (List ((List UInt8) × (List UInt8))) × (List ((List UInt8) × Int)))) × Int × Int × (List ((List UInt8) × Bool)) × Int × Int) → Option (Bool × (List (Int × (List ((List UInt8) × (List UInt8))) × (List ((List UInt8) × Int)))))) =>
                                                          (if fits (i2 - a3) then (bif (decide ((2 : Int) ≤ (i2 - a3))) then
                                                              (if fits (i2 - 1) then (iter (fun (go3 : ((List (Int × (List ((List UInt8) × (List UInt8))) × (List ((List UInt8) × Int)))) × Int × Int × (List ((List UInt8) × Bool)) × Int × Int × Int) → Option (Bool × (List (Int × (List ((List UInt8) × (List UInt8))) × (List ((List UInt8) × Int)))))) (g : (List (Int × (List ((List UInt8) × (List UInt8))) × (List ((List UInt8) × Int)))) × Int × Int × (List ((List UInt8) × Bool)) × Int × Int × Int) => 
                                                                    match g with
                                                                    | (data4, a4, b4, cmp4, i3, j3, j4) =>
                                                                    (bif (decide ((1 : Int) ≤ j4)) then
                                                                      (if 0 ≤ j4 ∧ j4 < (data4.length : Int) then
                                                                        (Option.bind (data4[j4.toNat]?) fun (e7 : Int × (List ((List UInt8) × (List UInt8))) × (List ((List UInt8) × Int))) =>
                                                                          (if fits (j4 - 1) then (if 0 ≤ (j4 - 1) ∧ (j4 - 1) < (data4.length : Int) then
                                                                              (Option.bind (data4[(j4 - 1).toNat]?) fun (e8 : Int × (List ((List UInt8) × (List UInt8))) × (List ((List UInt8) × Int))) =>
                                                                                (Option.bind (i_SortOf_1_m N e7.1 e7.2.1 e7.2.2 e8.1 e8.2.1 e8.2.2 cmp4) fun (r2 : Int) =>
                                                                                (bif (!(decide (r2 < 0))) then
                                                                                (J (data4, a4, b4, cmp4, i3, j3))
                                                                                else
                                                                                (if fits (j4 - 1) then (if fits (j4 - 1) then (if 0 ≤ (j4 - 1) ∧ (j4 - 1) < (data4.length : Int) then
                                                                                (Option.bind (data4[(j4 - 1).toNat]?) fun (e9 : Int × (List ((List UInt8) × (List UInt8))) × (List ((List UInt8) × Int))) =>
                                                                                (if 0 ≤ j4 ∧ j4 < (data4.length : Int) then
                                                                                (Option.bind (data4[j4.toNat]?) fun (e10 : Int × (List ((List UInt8) × (List UInt8))) × (List ((List UInt8) × Int))) =>
                                                                                (if 0 ≤ j4 ∧ j4 < (data4.length : Int) then
                                                                                (Option.bind (data4[j4.toNat]?) fun (e11 : Int × (List ((List UInt8) × (List UInt8))) × (List ((List UInt8) × Int))) =>
                                                                                (if 0 ≤ (j4 - 1) ∧ (j4 - 1) < ((data4.set j4.toNat e9).length : Int) then
                                                                                (Option.bind ((data4.set j4.toNat e9)[(j4 - 1).toNat]?) fun (e12 : Int × (List ((List UInt8) × (List UInt8))) × (List ((List UInt8) × Int))) =>
                                                                                (if fits (j4 - 1) then (go3 (((data4.set j4.toNat e9).set (j4 - 1).toNat e10), a4, b4, cmp4, i3, j3, (j4 - 1))) else none))
                                                                                else none))
                                                                                else none))
                                                                                else none))
                                                                                else none) else none) else none))))
                                                                              else none) else none))
                                                                        else none)
                                                                      else
                                                                      (J (data4, a4, b4, cmp4, i3, j3)))) N (((data3.set i2.toNat e3).set (i2 - 1).toNat e4), a3, b3, cmp3, i2, j2, (i2 - 1))) else none)
                                                              else
                                                              (J (((data3.set i2.toNat e3).set (i2 - 1).toNat e4), a3, b3, cmp3, i2, j2))) else none)))
                                                      else none))
                                                  else none))
                                              else none))
                                          else none) else none) else none)) else none)))))
                        else none) else none))
                  else none)
                else
                (bif (decide (i2 = b3)) then
                  (some (true, data3))
                  else
                  (if fits (b3 - a3) then (bif (decide ((b3 - a3) < 50)) then
                      (some (false, data3))
                      else
                      (if fits (i2 - 1) then (if fits (i2 - 1) then (if 0 ≤ (i2 - 1) ∧ (i2 - 1) < (data3.length : Int) then
                            (Option.bind (data3[(i2 - 1).toNat]?) fun (e19 : Int × (List ((List UInt8) × (List UInt8))) × (List ((List UInt8) × Int))) =>
                              (if 0 ≤ i2 ∧ i2 < (data3.length : Int) then
                                (Option.bind (data3[i2.toNat]?) fun (e20 : Int × (List ((List UInt8) × (List UInt8))) × (List ((List UInt8) × Int))) =>
                                  (if 0 ≤ i2 ∧ i2 < (data3.length : Int) then
                                    (Option.bind (data3[i2.toNat]?) fun (e21 : Int × (List ((List UInt8) × (List UInt8))) × (List ((List UInt8) × Int))) =>
                                      (if 0 ≤ (i2 - 1) ∧ (i2 - 1) < ((data3.set i2.toNat e19).length : Int) then
                                        (Option.bind ((data3.set i2.toNat e19)[(i2 - 1).toNat]?) fun (e22 : Int × (List ((List UInt8) × (List UInt8))) × (List ((List UInt8) × Int))) =>
                                          (meet (fun (g : (List (Int × (List ((List UInt8) × (List UInt8))) × (List ((List UInt8) × Int)))) × Int × Int × (List ((List UInt8) × Bool)) × Int × Int) => 
                                              match g with
                                              | (data8, a8, b8, cmp8, i7, j10) =>
                                              (if fits (b8 - i7) then (bif (decide ((2 : Int) ≤ (b8 - i7))) then
                                                  (if fits (i7 + 1) then (iter (fun (go6 : ((List (Int × (List ((List UInt8) × (List UInt8))) × (List ((List UInt8) × Int)))) × Int × Int × (List ((List UInt8) × Bool)) × Int × Int × Int) → Option (Bool × (List (Int × (List ((List UInt8) × (List UInt8))) × (List ((List UInt8) × Int)))))) (g : (List (Int × (List ((List UInt8) × (List UInt8))) × (List ((List UInt8) × Int)))) × Int × Int × (List ((List UInt8) × Bool)) × Int × Int × Int) => 
                                                        match g with
                                                        | (data9, a9, b9, cmp9, i8, j11, j12) =>
                                                        (bif (decide (j12 < b9)) then
                                                          (if 0 ≤ j12 ∧ j12 < (data9.length : Int) then
                                                            (Option.bind (data9[j12.toNat]?) fun (e29 : Int × (List ((List UInt8) × (List UInt8))) × (List ((List UInt8) × Int))) =>
                                                              (if fits (j12 - 1) then (if 0 ≤ (j12 - 1) ∧ (j12 - 1) < (data9.length : Int) then
                                                                  (Option.bind (data9[(j12 - 1).toNat]?) fun (e30 : Int × (List ((List UInt8) × (List UInt8))) × (List ((List UInt8) × Int))) =>
                                                                    (Option.bind (i_SortOf_1_m N e29.1 e29.2.1 e29.2.2 e30.1 e30.2.1 e30.2.2 cmp9) fun (r5 : Int) =>
                                                                      (bif (!(decide (r5 < 0))) then
                                                                        (if fits (j11 + 1) then (go (data9, a9, b9, cmp9, i8, (j11 + 1))) else none)
                                                                        else
                                                                        (if fits (j12 - 1) then (if fits (j12 - 1) then (if 0 ≤ (j12 - 1) ∧ (j12 - 1) < (data9.length : Int) then
                                                                              (Option.bind (data9[(j12 - 1).toNat]?) fun (e31 : Int × (List ((List UInt8) × (List UInt8))) × (List ((List UInt8) × Int))) =>
                                                                                (if 0 ≤ j12 ∧ j12 < (data9.length : Int) then
                                                                                (Option.bind (data9[j12.toNat]?) fun (e32 : Int × (List ((List UInt8) × (List UInt8))) × (List ((List UInt8) × Int))) =>
                                                                                (if 0 ≤ j12 ∧ j12 < (data9.length : Int) then
                                                                                (Option.bind (data9[j12.toNat]?) fun (e33 : Int × (List ((List UInt8) × (List UInt8))) × (List ((List UInt8) × Int))) =>
                                                                                (if 0 ≤ (j12 - 1) ∧ (j12 - 1) < ((data9.set j12.toNat e31).length : Int) then
                                                                                (Option.bind ((data9.set j12.toNat e31)[(j12 - 1).toNat]?) fun (e34 : Int × (List ((List UInt8) × (List UInt8))) × (List ((List UInt8) × Int))) =>
                                                                                (if fits (j12 + 1) then (go6 (((data9.set j12.toNat e31).set (j12 - 1).toNat e32), a9, b9, cmp9, i8, j11, (j12 + 1))) else none))
                                                                                else none))
                                                                                else none))
                                                                                else none))
                                                                              else none) else none) else none))))
                                                                  else none) else none))
                                                            else none)
                                                          else
                                                          (if fits (j11 + 1) then (go (data9, a9, b9, cmp9, i8, (j11 + 1))) else none))) N (data8, a8, b8, cmp8, i7, j10, (i7 + 1))) else none)
                                                  else
                                                  (if fits (j10 + 1) then (go (data8, a8, b8, cmp8, i7, (j10 + 1))) else none)) else none)) fun (J2 : ((List (Int × (List ((List UInt8) × (List UInt8))) × (List ((List UInt8) × Int)))) × Int × Int × (List ((List UInt8) × Bool)) × Int × Int) → Option (Bool × (List (Int × (List ((List UInt8) × (List UInt8))) × (List ((List UInt8) × Int)))))) =>
                                            (if fits (i2 - a3) then (bif (decide ((2 : Int) ≤ (i2 - a3))) then
                                                (if fits (i2 - 1) then (iter (fun (go5 : ((List (Int × (List ((List UInt8) × (List UInt8))) × (List ((List UInt8) × Int)))) × Int × Int × (List ((List UInt8) × Bool)) × Int × Int × Int) → Option (Bool × (List (Int × (List ((List UInt8) × (List UInt8))) × (List ((List UInt8) × Int)))))) (g : (List (Int × (List ((List UInt8) × (List UInt8))) × (List ((List UInt8) × Int)))) × Int × Int × (List ((List UInt8) × Bool)) × Int × Int × Int) => 
                                                      match g with
                                                      | (data7, a7, b7, cmp7, i6, j8, j9) =>
                                                      (bif (decide ((1 : Int) ≤ j9)) then
                                                        (if 0 ≤ j9 ∧ j9 < (data7.length : Int) then
                                                          (Option.bind (data7[j9.toNat]?) fun (e23 : Int × (List ((List UInt8) × (List UInt8))) × (List ((List UInt8) × Int))) =>
                                                            (if fits (j9 - 1) then (if 0 ≤ (j9 - 1) ∧ (j9 - 1) < (data7.length : Int) then
                                                                (Option.bind (data7[(j9 - 1).toNat]?) fun (e24 : Int × (List ((List UInt8) × (List UInt8))) × (List ((List UInt8) × Int))) =>
                                                                  (Option.bind (i_SortOf_1_m N e23.1 e23.2.1 e23.2.2 e24.1 e24.2.1 e24.2.2 cmp7) fun (r4 : Int) =>
                                                                    (bif (!(decide (r4 < 0))) then
                                                                      (J2 (data7, a7, b7, cmp7, i6, j8))
                                                                      else
                                                                      (if fits (j9 - 1) then (if fits (j9 - 1) then (if 0 ≤ (j9 - 1) ∧ (j9 - 1) < (data7.length : Int) then
                                                                            (Option.bind (data7[(j9 - 1).toNat]?) fun (e25 : Int × (List ((List UInt8) × (List UInt8))) × (List ((List UInt8) × Int))) =>
                                                                              (if 0 ≤ j9 ∧ j9 < (data7.length : Int) then
                                                                                (Option.bind (data7[j9.toNat]?) fun (e26 : Int × (List ((List UInt8) × (List UInt8))) × (List ((List UInt8) × Int))) =>
                                                                                (if 0 ≤ j9 ∧ j9 < (data7.length : Int) then
                                                                                (Option.bind (data7[j9.toNat]?) fun (e27 : Int × (List ((List UInt8) × (List UInt8))) × (List ((List UInt8) × Int))) =>
                                                                                (if 0 ≤ (j9 - 1) ∧ (j9 - 1) < ((data7.set j9.toNat e25).length : Int) then
                                                                                (Option.bind ((data7.set j9.toNat e25)[(j9 - 1).toNat]?) fun (e28 : Int × (List ((List UInt8) × (List UInt8))) × (List ((List UInt8) × Int))) =>
                                                                                (if fits (j9 - 1) then (go5 (((data7.set j9.toNat e25).set (j9 - 1).toNat e26), a7, b7, cmp7, i6, j8, (j9 - 1))) else none))
                                                                                else none))
                                                                                else none))
                                                                                else none))
                                                                            else none) else none) else none))))
                                                                else none) else none))
                                                          else none)
                                                        else
                                                        (J2 (data7, a7, b7, cmp7, i6, j8)))) N (((data3.set i2.toNat e19).set (i2 - 1).toNat e20), a3, b3, cmp3, i2, j2, (i2 - 1))) else none)
                                                else
                                                (J2 (((data3.set i2.toNat e19).set (i2 - 1).toNat e20), a3, b3, cmp3, i2, j2))) else none)))
                                        else none))
                                    else none))
                                else none))
                            else none) else none) else none)) else none)))) N (data2, a2, b2, cmp2, i, j))
          else
          (some (false, data2)))) N (data, a, b, cmp, (a + 1), 0)) else none)
def k_slices_partialInsertionSortCmpFunc_281_M (N : Nat) : Model := ⟨k_slices_partialInsertionSortCmpFunc_281_arg, k_slices_partialInsertionSortCmpFunc_281_ret, fun a => k_slices_partialInsertionSortCmpFunc_281_m N a.1 a.2.1 a.2.2.1 a.2.2.2⟩
set_option maxRecDepth 1000000 in
theorem k_slices_partialInsertionSortCmpFunc_281_ok (N : Nat) : ModelOk Try.prog 95 (k_slices_partialInsertionSortCmpFunc_281_M N) :=
  modelOk_of (E := mkEnv [(59, i_SortOf_1_M N)] [] [800000]) (mkEnv_ok (fnsOk_cons (i_SortOf_1_ok N) fnsOk_nil) _ _) Try.func95 (by kernel_rfl) rfl N k_slices_partialInsertionSortCmpFunc_281_h (k_slices_partialInsertionSortCmpFunc_281_M N) (by kernel_rfl) (by kernel_rfl) (fun a => by kernel_rfl)
/-! slices.partitionEqualCmpFunc[loop.example/fossick/impl.Doc] -/
def k_slices_partitionEqualCmpFunc_776_arg : Sh := ⟨[.mtk 800000 (.pair (.int .i64) (.pair (.sl (.pair .str .str)) (.sl (.pair .str (.int .i64))))) 33 false, .pv (.int .i64), .pv (.int .i64), .pv (.int .i64), .clo 59 [.ptr (.sl (.pair .str .bool))]], []⟩
def k_slices_partitionEqualCmpFunc_776_ret : Sh := ⟨[.pv (.int .i64), .mtk 800000 (.pair (.int .i64) (.pair (.sl (.pair .str .str)) (.sl (.pair .str (.int .i64))))) 33 false], []⟩
def k_slices_partitionEqualCmpFunc_776_s1 : Sh := ⟨[.mtk 800000 (.pair (.int .i64) (.pair (.sl (.pair .str .str)) (.sl (.pair .str (.int .i64))))) 33 false, .pv (.int .i64), .dead, .dead, .clo 59 [.ptr (.sl (.pair .str .bool))], .dead, .dead, .dead, .dead, .dead, .dead, .pv (.int .i64), .pv (.int .i64), .dead, .dead, .dead, .dead, .dead, .dead, .dead, .dead, .dead, .dead, .dead, .dead, .dead, .dead, .dead, .dead, .dead, .dead, .dead, .dead, .dead, .dead, .dead, .dead, .dead, .dead, .dead, .dead, .dead, .dead, .dead, .dead, .dead, .dead, .dead, .dead, .dead, .dead, .dead, .dead, .dead, .dead, .dead, .dead, .dead, .dead, .dead, .dead, .dead, .dead, .dead, .dead, .dead, .dead, .dead, .dead, .dead, .dead, .dead, .dead, .dead, .dead, .dead, .dead, .dead, .dead, .dead, .dead, .dead, .dead, .dead, .dead, .dead, .dead, .dead, .dead, .dead], []⟩
def k_slices_partitionEqualCmpFunc_776_s2 : Sh := ⟨[.mtk 800000 (.pair (.int .i64) (.pair (.sl (.pair .str .str)) (.sl (.pair .str (.int .i64))))) 33 false, .pv (.int .i64), .dead, .dead, .clo 59 [.ptr (.sl (.pair .str .bool))], .dead, .dead, .dead, .dead, .dead, .dead, .pv (.int .i64), .pv (.int .i64), .dead, .dead, .dead, .dead, .dead, .dead, .dead, .dead, .dead, .dead, .dead, .dead, .dead, .dead, .dead, .dead, .dead, .dead, .dead, .dead, .dead, .dead, .dead, .dead, .dead, .dead, .dead, .dead, .dead, .dead, .dead, .dead, .dead, .dead, .dead, .dead, .dead, .dead, .dead, .dead, .dead, .dead, .dead, .dead, .dead, .dead, .dead, .dead, .dead, .dead, .dead, .dead, .dead, .dead, .dead, .dead, .dead, .dead, .dead, .dead, .dead, .dead, .dead, .dead, .dead, .dead, .dead, .dead, .dead, .dead, .dead, .dead, .dead, .dead, .dead, .dead, .dead], []⟩
def k_slices_partitionEqualCmpFunc_776_s3 : Sh := ⟨[.mtk 800000 (.pair (.int .i64) (.pair (.sl (.pair .str .str)) (.sl (.pair .str (.int .i64))))) 33 false, .pv (.int .i64), .dead, .dead, .clo 59 [.ptr (.sl (.pair .str .bool))], .dead, .dead, .dead, .dead, .dead, .dead, .pv (.int .i64), .pv (.int .i64), .dead, .dead, .dead, .dead, .dead, .dead, .dead, .dead, .dead, .dead, .dead, .dead, .dead, .dead, .dead, .dead, .dead, .dead, .dead, .dead, .dead, .dead, .dead, .dead, .dead, .dead, .dead, .dead, .dead, .dead, .dead, .dead, .dead, .dead, .dead, .dead, .dead, .dead, .dead, .dead, .dead, .dead, .dead, .dead, .dead, .dead, .dead, .dead, .dead, .dead, .dead, .dead, .dead, .dead, .dead, .dead, .dead, .dead, .dead, .dead, .dead, .dead, .dead, .dead, .dead, .dead, .dead, .dead, .dead, .dead, .dead, .dead, .dead, .dead, .dead, .dead, .dead], []⟩
def k_slices_partitionEqualCmpFunc_776_h : Hint := (.seq .no (.seq .no (.seq .no (.seq (.block (.loop k_slices_partitionEqualCmpFunc_776_s1 (.block (.seq (.block (.loop k_slices_partitionEqualCmpFunc_776_s2 .no)) (.seq (.block (.loop k_slices_partitionEqualCmpFunc_776_s3 .no)) .no))))) .no))))
def k_slices_partitionEqualCmpFunc_776_m (N : Nat) (data : List (Int × (List ((List UInt8) × (List UInt8))) × (List ((List UInt8) × Int)))) (a : Int) (b : Int) (pivot : Int) (cmp : List ((List UInt8) × Bool)) : Option (Int × (List (Int × (List ((List UInt8) × (List UInt8))) × (List ((List UInt8) × Int))))) :=
  (if 0 ≤ pivot ∧ pivot < (data.length : Int) then
    (Option.bind (data[pivot.toNat]?) fun (e : Int × (List ((List UInt8) × (List UInt8))) × (List ((List UInt8) × Int))) =>
      (if 0 ≤ a ∧ a < (data.length : Int) then
        (Option.bind (data[a.toNat]?) fun (e2 : Int × (List ((List UInt8) × (List UInt8))) × (List ((List UInt8) × Int))) =>
          (if 0 ≤ a ∧ a < (data.length : Int) then
            (Option.bind (data[a.toNat]?) fun (e3 : Int × (List ((List UInt8) × (List UInt8))) × (List ((List UInt8) × Int))) =>
              (if 0 ≤ pivot ∧ pivot < ((data.set a.toNat e).length : Int) then
                (Option.bind ((data.set a.toNat e)[pivot.toNat]?) fun (e4 : Int × (List ((List UInt8) × (List UInt8))) × (List ((List UInt8) × Int))) =>
                  (if fits (a + 1) then (if fits (b - 1) then (iter (fun (go : ((List (Int × (List ((List UInt8) × (List UInt8))) × (List ((List UInt8) × Int)))) × Int × (List ((List UInt8) × Bool)) × Int × Int) → Option (Int × (List (Int × (List ((List UInt8) × (List UInt8))) × (List ((List UInt8) × Int)))))) (g : (List (Int × (List ((List UInt8) × (List UInt8))) × (List ((List UInt8) × Int)))) × Int × (List ((List UInt8) × Bool)) × Int × Int) => 
                          match g with
                          | (data2, a2, cmp2, i, j) =>
                          (iter (fun (go2 : ((List (Int × (List ((List UInt8) × (List UInt8))) × (List ((List UInt8) × Int)))) × Int × (List ((List UInt8) × Bool)) × Int × Int) → Option (Int × (List (Int × (List ((List UInt8) × (List UInt8))) × (List ((List UInt8) × Int)))))) (g : (List (Int × (List ((List UInt8) × (List UInt8))) × (List ((List UInt8) × Int)))) × Int × (List ((List UInt8) × Bool)) × Int × Int) => 
                              match g with
                              | (data3, a3, cmp3, i2, j2) =>
                              (bif (decide (i2 ≤ j2)) then
                                (if 0 ≤ a3 ∧ a3 < (data3.length : Int) then
                                  (Option.bind (data3[a3.toNat]?) fun (e5 : Int × (List ((List UInt8) × (List UInt8))) × (List ((List UInt8) × Int))) =>
                                    (if 0 ≤ i2 ∧ i2 < (data3.length : Int) then
                                      (Option.bind (data3[i2.toNat]?) fun (e6 : Int × (List ((List UInt8) × (List UInt8))) × (List ((List UInt8) × Int))) =>
                                        (Option.bind (i_SortOf_1_m N e5.1 e5.2.1 e5.2.2 e6.1 e6.2.1 e6.2.2 cmp3) fun (r : Int) =>
                                          (bif (!(decide (r < 0))) then
                                            (if fits (i2 + 1) then (go2 (data3, a3, cmp3, (i2 + 1), j2)) else none)
                                            else
                                            (iter (fun (go3 : ((List (Int × (List ((List UInt8) × (List UInt8))) × (List ((List UInt8) × Int)))) × Int × (List ((List UInt8) × Bool)) × Int × Int) → Option (Int × (List (Int × (List ((List UInt8) × (List UInt8))) × (List ((List UInt8) × Int)))))) (g : (List (Int × (List ((List UInt8) × (List UInt8))) × (List ((List UInt8) × Int)))) × Int × (List ((List UInt8) × Bool)) × Int × Int) => 
                                                match g with
                                                | (data4, a4, cmp4, i3, j3) =>
                                                (bif (decide (i3 ≤ j3)) then
                                                  (if 0 ≤ a4 ∧ a4 < (data4.length : Int) then
                                                    (Option.bind (data4[a4.toNat]?) fun (e7 : Int × (List ((List UInt8) × (List UInt8))) × (List ((List UInt8) × Int))) =>
                                                      (if 0 ≤ j3 ∧ j3 < (data4.length : Int) then
                                                        (Option.bind (data4[j3.toNat]?) fun (e8 : Int × (List ((List UInt8) × (List UInt8))) × (List ((List UInt8) × Int))) =>
                                                          (Option.bind (i_SortOf_1_m N e7.1 e7.2.1 e7.2.2 e8.1 e8.2.1 e8.2.2 cmp4) fun (r2 : Int) =>
                                                            (bif (decide (r2 < 0)) then
                                                              (if fits (j3 - 1) then (go3 (data4, a4, cmp4, i3, (j3 - 1))) else none)
                                                              else
                                                              (bif (decide (j3 < i3)) then
                                                                (some (i3, data4))
                                                                else
                                                                (if 0 ≤ j3 ∧ j3 < (data4.length : Int) then
                                                                  (Option.bind (data4[j3.toNat]?) fun (e9 : Int × (List ((List UInt8) × (List UInt8))) × (List ((List UInt8) × Int))) =>
                                                                    (if 0 ≤ i3 ∧ i3 < (data4.length : Int) then
                                                                      (Option.bind (data4[i3.toNat]?) fun (e10 : Int × (List ((List UInt8) × (List UInt8))) × (List ((List UInt8) × Int))) =>
                                                                        (if 0 ≤ i3 ∧ i3 < (data4.length : Int) then
                                                                          (Option.bind (data4[i3.toNat]?) fun (e11 : Int × (List ((List UInt8) × (List UInt8))) × (List ((List UInt8) × Int))) =>
                                                                            (if 0 ≤ j3 ∧ j3 < ((data4.set i3.toNat e9).length : Int) then
                                                                              (Option.bind ((data4.set i3.toNat e9)[j3.toNat]?) fun (e12 : Int × (List ((List UInt8) × (List UInt8))) × (List ((List UInt8) × Int))) =>
                                                                                (if fits (i3 + 1) then (if fits (j3 - 1) then (go (((data4.set i3.toNat e9).set j3.toNat e10), a4, cmp4, (i3 + 1), (j3 - 1))) else none) else none))
                                                                              else none))
                                                                          else none))
                                                                      else none))
                                                                  else none)))))
                                                        else none))
                                                    else none)
                                                  else
                                                  (bif (decide (j3 < i3)) then
                                                    (some (i3, data4))
                                                    else
                                                    (if 0 ≤ j3 ∧ j3 < (data4.length : Int) then
                                                      (Option.bind (data4[j3.toNat]?) fun (e13 : Int × (List ((List UInt8) × (List UInt8))) × (List ((List UInt8) × Int))) =>
                                                        (if 0 ≤ i3 ∧ i3 < (data4.length : Int) then
                                                          (Option.bind (data4[i3.toNat]?) fun (e14 : Int × (List ((List UInt8) × (List UInt8))) × (List ((List UInt8) × Int))) =>
                                                            (if 0 ≤ i3 ∧ i3 < (data4.length : Int) then
                                                              (Option.bind (data4[i3.toNat]?) fun (e15 : Int × (List ((List UInt8) × (List UInt8))) × (List ((List UInt8) × Int))) =>
                                                                (if 0 ≤ j3 ∧ j3 < ((data4.set i3.toNat e13).length : Int) then
                                                                  (Option.bind ((data4.set i3.toNat e13)[j3.toNat]?) fun (e16 : Int × (List ((List UInt8) × (List UInt8))) × (List ((List UInt8) × Int))) =>
                                                                    (if fits (i3 + 1) then (if fits (j3 - 1) then (go (((data4.set i3.toNat e13).set j3.toNat e14), a4, cmp4, (i3 + 1), (j3 - 1))) else none) else none))
                                                                  else none))
                                                              else none))
                                                          else none))
                                                      else none)))) N (data3, a3, cmp3, i2, j2)))))
                                      else none))
                                  else none)
                                else
                                (iter (fun (go4 : ((List (Int × (List ((List UInt8) × (List UInt8))) × (List ((List UInt8) × Int)))) × Int × (List ((List UInt8) × Bool)) × Int × Int) → Option (Int × (List (Int × (List ((List UInt8) × (List UInt8))) × (List ((List UInt8) × Int)))))) (g : (List (Int × (List ((List UInt8) × (List UInt8))) × (List ((List UInt8) × Int)))) × Int × (List ((List UInt8) × Bool)) × Int × Int) => 
                                    match g with
                                    | (data5, a5, cmp5, i4, j4) =>
                                    (bif (decide (i4 ≤ j4)) then
                                      (if 0 ≤ a5 ∧ a5 < (data5.length : Int) then
                                        (Option.bind (data5[a5.toNat]?) fun (e17 : Int × (List ((List UInt8) × (List UInt8))) × (List ((List UInt8) × Int))) =>
                                          (if 0 ≤ j4 ∧ j4 < (data5.length : Int) then
                                            (Option.bind (data5[j4.toNat]?) fun (e18 : Int × (List ((List UInt8) × (List UInt8))) × (List ((List UInt8) × Int))) =>
                                              (Option.bind (i_SortOf_1_m N e17.1 e17.2.1 e17.2.2 e18.1 e18.2.1 e18.2.2 cmp5) fun (r3 : Int) =>
                                                (bif (decide (r3 < 0)) then
                                                  (if fits (j4 - 1) then (go4 (data5, a5, cmp5, i4, (j4 - 1))) else none)
                                                  else
                                                  (bif (decide (j4 < i4)) then
                                                    (some (i4, data5))
                                                    else
                                                    (if 0 ≤ j4 ∧ j4 < (data5.length : Int) then
                                                      (Option.bind (data5[j4.toNat]?) fun (e19 : Int × (List ((List UInt8) × (List UInt8))) × (List ((List UInt8) × Int))) =>
                                                        (if 0 ≤ i4 ∧ i4 < (data5.length : Int) then
                                                          (Option.bind (data5[i4.toNat]?) fun (e20 : Int × (List ((List UInt8) × (List UInt8))) × (List ((List UInt8) × Int))) =>
                                                            (if 0 ≤ i4 ∧ i4 < (data5.length : Int) then
                                                              (Option.bind (data5[i4.toNat]?) fun (e21 : Int × (List ((List UInt8) × (List UInt8))) × (List ((List UInt8) × Int))) =>
                                                                (if 0 ≤ j4 ∧ j4 < ((data5.set i4.toNat e19).length : Int) then
                                                                  (Option.bind ((data5.set i4.toNat e19)[j4.toNat]?) fun (e22 : Int × (List ((List UInt8) × (List UInt8))) × (List ((List UInt8) × Int))) =>
                                                                    (if fits (i4 + 1) then (if fits (j4 - 1) then (go (((data5.set i4.toNat e19).set j4.toNat e20), a5, cmp5, (i4 + 1), (j4 - 1))) else none) else none))
                                                                  else none))
                                                              else none))
                                                          else none))
                                                      else none)))))
                                            else none))
                                        else none)
                                      else
                                      (bif (decide (j4 < i4)) then
                                        (some (i4, data5))
                                        else
                                        (if 0 ≤ j4 ∧ j4 < (data5.length : Int) then
                                          (Option.bind (data5[j4.toNat]?) fun (e23 : Int × (List ((List UInt8) × (List UInt8))) × (List ((List UInt8) × Int))) =>
                                            (if 0 ≤ i4 ∧ i4 < (data5.length : Int) then
                                              (Option.bind (data5[i4.toNat]?) fun (e24 : Int × (List ((List UInt8) × (List UInt8))) × (List ((List UInt8) × Int))) =>
                                                (if 0 ≤ i4 ∧ i4 < (data5.length : Int) then
                                                  (Option.bind (data5[i4.toNat]?) fun (e25 : Int × (List ((List UInt8) × (List UInt8))) × (List ((List UInt8) × Int))) =>
                                                    (if 0 ≤ j4 ∧ j4 < ((data5.set i4.toNat e23).length : Int) then
                                                      (Option.bind ((data5.set i4.toNat e23)[j4.toNat]?) fun (e26 : Int × (List ((List UInt8) × (List UInt8))) × (List ((List UInt8) × Int))) =>
                                                        (if fits (i4 + 1) then (if fits (j4 - 1) then (go (((data5.set i4.toNat e23).set j4.toNat e24), a5, cmp5, (i4 + 1), (j4 - 1))) else none) else none))
                                                      else none))
                                                  else none))
                                              else none))
                                          else none)))) N (data3, a3, cmp3, i2, j2)))) N (data2, a2, cmp2, i, j))) N (((data.set a.toNat e).set pivot.toNat e2), a, cmp, (a + 1), (b - 1))) else none) else none))
                else none))
            else none))
        else none))
    else none)
def k_slices_partitionEqualCmpFunc_776_M (N : Nat) : Model := ⟨k_slices_partitionEqualCmpFunc_776_arg, k_slices_partitionEqualCmpFunc_776_ret, fun a => k_slices_partitionEqualCmpFunc_776_m N a.1 a.2.1 a.2.2.1 a.2.2.2.1 a.2.2.2.2⟩
set_option maxRecDepth 1000000 in
theorem k_slices_partitionEqualCmpFunc_776_ok (N : Nat) : ModelOk Try.prog 96 (k_slices_partitionEqualCmpFunc_776_M N) :=
  modelOk_of (E := mkEnv [(59, i_SortOf_1_M N)] [] [800000]) (mkEnv_ok (fnsOk_cons (i_SortOf_1_ok N) fnsOk_nil) _ _) Try.func96 (by kernel_rfl) rfl N k_slices_partitionEqualCmpFunc_776_h (k_slices_partitionEqualCmpFunc_776_M N) (by kernel_rfl) (by kernel_rfl) (fun a => by kernel_rfl)
/-! slices.partitionCmpFunc[loop.example/fossick/impl.Doc] -/
end Go.Proofs.Ytjggioppicabbaa
