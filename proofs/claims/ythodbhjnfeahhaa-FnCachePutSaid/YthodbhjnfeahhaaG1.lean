import Derived.Test.YthodbhjnfeahhaaKTab
set_option linter.unusedVariables false
set_option linter.unusedSimpArgs false
namespace Go.Proofs.Ythodbhjnfeahhaa
open Go.RowKit
/-! loop.example/fossick/spec.l1In -/
def s_l1In_arg : Sh := ⟨[.pv (.int .i64), .pv (.int .i64), .pv (.int .i64)], []⟩
def s_l1In_ret : Sh := ⟨[.pv .bool], []⟩
def s_l1In_h : Hint := .no
def s_l1In_m (N : Nat) (n : Int) (low : Int) (high : Int) : Option (Bool) :=
  (bif (decide (low ≤ n)) then
    (some (decide (n ≤ high)))
    else
    (some false))
def s_l1In_M (N : Nat) : Model := ⟨s_l1In_arg, s_l1In_ret, fun a => s_l1In_m N a.1 a.2.1 a.2.2⟩
set_option maxRecDepth 1000000 in
theorem s_l1In_ok (N : Nat) : ModelOk Try.prog 35 (s_l1In_M N) :=
  modelOk_of (E := mkEnv [] [] []) (mkEnv_ok fnsOk_nil _ _) Try.func35 (by kernel_rfl) rfl N s_l1In_h (s_l1In_M N) (by kernel_rfl) (by kernel_rfl) (fun a => by kernel_rfl)
/-! loop.example/fossick/spec.CacheNew -/
def s_CacheNew_arg : Sh := ⟨[.pv (.int .i64)], []⟩
def s_CacheNew_ret : Sh := ⟨[.agg [.pv (.int .i64), .pv (.int .i64), .nils]], []⟩
def s_CacheNew_h : Hint := .no
def s_CacheNew_m (N : Nat) (most : Int) : Option (Int × Int) :=
  (Option.bind (s_l1In_m N most 1 5) fun (r : Bool) =>
    (bif (!r) then
      (some (0, 0))
      else
      (some (most, 0))))
def s_CacheNew_M (N : Nat) : Model := ⟨s_CacheNew_arg, s_CacheNew_ret, fun a => s_CacheNew_m N a⟩
set_option maxRecDepth 1000000 in
theorem s_CacheNew_ok (N : Nat) : ModelOk Try.prog 10 (s_CacheNew_M N) :=
  modelOk_of (E := mkEnv [(35, s_l1In_M N)] [] []) (mkEnv_ok (fnsOk_cons (s_l1In_ok N) fnsOk_nil) _ _) Try.func10 (by kernel_rfl) rfl N s_CacheNew_h (s_CacheNew_M N) (by kernel_rfl) (by kernel_rfl) (fun a => by kernel_rfl)
/-! loop.example/fossick/impl.within -/
def i_within_arg : Sh := ⟨[.pv (.int .i64), .pv (.int .i64), .pv (.int .i64)], []⟩
def i_within_ret : Sh := ⟨[.pv .bool], []⟩
def i_within_h : Hint := .no
def i_within_m (N : Nat) (n : Int) (low : Int) (high : Int) : Option (Bool) :=
  (bif (decide (low ≤ n)) then
    (some (decide (n ≤ high)))
    else
    (some false))
def i_within_M (N : Nat) : Model := ⟨i_within_arg, i_within_ret, fun a => i_within_m N a.1 a.2.1 a.2.2⟩
set_option maxRecDepth 1000000 in
theorem i_within_ok (N : Nat) : ModelOk Try.prog 36 (i_within_M N) :=
  modelOk_of (E := mkEnv [] [] []) (mkEnv_ok fnsOk_nil _ _) Try.func36 (by kernel_rfl) rfl N i_within_h (i_within_M N) (by kernel_rfl) (by kernel_rfl) (fun a => by kernel_rfl)
/-! loop.example/fossick/impl.CacheNew -/
def i_CacheNew_arg : Sh := ⟨[.pv (.int .i64)], []⟩
def i_CacheNew_ret : Sh := ⟨[.agg [.pv (.int .i64), .pv (.int .i64), .own 1 (.pair .str (.sl (.pair (.int .i64) (.int .i64)))) 46 true]], []⟩
def i_CacheNew_h : Hint := .no
def i_CacheNew_m (N : Nat) (most : Int) : Option (Int × Int × (List ((List UInt8) × (List (Int × Int))))) :=
  (Option.bind (i_within_m N most 1 5) fun (r : Bool) =>
    (bif (!r) then
      (some (0, 0, ([] : List ((List UInt8) × (List (Int × Int))))))
      else
      (some (most, 0, ([] : List ((List UInt8) × (List (Int × Int))))))))
def i_CacheNew_M (N : Nat) : Model := ⟨i_CacheNew_arg, i_CacheNew_ret, fun a => i_CacheNew_m N a⟩
set_option maxRecDepth 1000000 in
theorem i_CacheNew_ok (N : Nat) : ModelOk Try.prog 11 (i_CacheNew_M N) :=
  modelOk_of (E := mkEnv [(36, i_within_M N)] [] []) (mkEnv_ok (fnsOk_cons (i_within_ok N) fnsOk_nil) _ _) Try.func11 (by kernel_rfl) rfl N i_CacheNew_h (i_CacheNew_M N) (by kernel_rfl) (by kernel_rfl) (fun a => by kernel_rfl)
/-! loop.example/fossick/laws.eqHit -/
def l_eqHit_arg : Sh := ⟨[.agg [.pv (.int .i64), .pv (.int .i64)], .agg [.pv (.int .i64), .pv (.int .i64)]], []⟩
def l_eqHit_ret : Sh := ⟨[.pv .bool], []⟩
def l_eqHit_h : Hint := .no
def l_eqHit_m (N : Nat) (a : Int) (a2 : Int) (b : Int) (b2 : Int) : Option (Bool) :=
  (bif (!decide (a = b)) then
    (some false)
    else
    (bif (!decide (a2 = b2)) then
      (some false)
      else
      (some true)))
def l_eqHit_M (N : Nat) : Model := ⟨l_eqHit_arg, l_eqHit_ret, fun a => l_eqHit_m N a.1 a.2.1 a.2.2.1 a.2.2.2⟩
set_option maxRecDepth 1000000 in
theorem l_eqHit_ok (N : Nat) : ModelOk Try.prog 52 (l_eqHit_M N) :=
  modelOk_of (E := mkEnv [] [] []) (mkEnv_ok fnsOk_nil _ _) Try.func52 (by kernel_rfl) rfl N l_eqHit_h (l_eqHit_M N) (by kernel_rfl) (by kernel_rfl) (fun a => by kernel_rfl)
/-! loop.example/fossick/laws.eqHitS -/
def l_eqHitS_arg : Sh := ⟨[.pv (.sl (.pair (.int .i64) (.int .i64))), .pv (.sl (.pair (.int .i64) (.int .i64)))], []⟩
def l_eqHitS_ret : Sh := ⟨[.pv .bool], []⟩
def l_eqHitS_s1 : Sh := ⟨[.pv (.sl (.pair (.int .i64) (.int .i64))), .pv (.sl (.pair (.int .i64) (.int .i64))), .dead, .dead, .dead, .pv (.int .i64), .dead, .dead, .dead, .dead, .dead, .dead, .dead, .dead, .dead, .dead, .dead, .dead, .dead, .dead, .dead, .dead, .dead, .dead, .dead, .dead, .dead], []⟩
def l_eqHitS_h : Hint := (.seq .no (.seq .no (.seq (.seq .no (.block (.loop l_eqHitS_s1 .no))) .no)))
def l_eqHitS_m (N : Nat) (a : List (Int × Int)) (b : List (Int × Int)) : Option (Bool) :=
  (bif (!decide ((a.length : Int) = (b.length : Int))) then
    (some false)
    else
    (iter (fun (go : ((List (Int × Int)) × (List (Int × Int)) × Int) → Option Bool) (g : (List (Int × Int)) × (List (Int × Int)) × Int) => 
        match g with
        | (a2, b2, i) =>
        (bif (decide (i < (a2.length : Int))) then
          (Option.bind (idx a2 i) fun (e : Int × Int) =>
            (Option.bind (idx b2 i) fun (e2 : Int × Int) =>
              (Option.bind (l_eqHit_m N e.1 e.2 e2.1 e2.2) fun (r : Bool) =>
                (bif (!r) then
                  (some false)
                  else
                  (if fits (i + 1) then (go (a2, b2, (i + 1))) else none)))))
          else
          (some true))) N (a, b, 0)))
def l_eqHitS_M (N : Nat) : Model := ⟨l_eqHitS_arg, l_eqHitS_ret, fun a => l_eqHitS_m N a.1 a.2⟩
set_option maxRecDepth 1000000 in
theorem l_eqHitS_ok (N : Nat) : ModelOk Try.prog 26 (l_eqHitS_M N) :=
  modelOk_of (E := mkEnv [(52, l_eqHit_M N)] [] []) (mkEnv_ok (fnsOk_cons (l_eqHit_ok N) fnsOk_nil) _ _) Try.func26 (by kernel_rfl) rfl N l_eqHitS_h (l_eqHitS_M N) (by kernel_rfl) (by kernel_rfl) (fun a => by kernel_rfl)
/-! loop.example/fossick/laws.eqItem -/
def l_eqItem_arg : Sh := ⟨[.agg [.pv .str, .pv (.sl (.pair (.int .i64) (.int .i64)))], .agg [.pv .str, .pv (.sl (.pair (.int .i64) (.int .i64)))]], []⟩
def l_eqItem_ret : Sh := ⟨[.pv .bool], []⟩
def l_eqItem_h : Hint := .no
def l_eqItem_m (N : Nat) (a : List UInt8) (a2 : List (Int × Int)) (b : List UInt8) (b2 : List (Int × Int)) : Option (Bool) :=
  (bif (!decide (a = b)) then
    (some false)
    else
    (Option.bind (l_eqHitS_m N a2 b2) fun (r : Bool) =>
      (bif (!r) then
        (some false)
        else
        (some true))))
def l_eqItem_M (N : Nat) : Model := ⟨l_eqItem_arg, l_eqItem_ret, fun a => l_eqItem_m N a.1 a.2.1 a.2.2.1 a.2.2.2⟩
set_option maxRecDepth 1000000 in
theorem l_eqItem_ok (N : Nat) : ModelOk Try.prog 58 (l_eqItem_M N) :=
  modelOk_of (E := mkEnv [(26, l_eqHitS_M N)] [] []) (mkEnv_ok (fnsOk_cons (l_eqHitS_ok N) fnsOk_nil) _ _) Try.func58 (by kernel_rfl) rfl N l_eqItem_h (l_eqItem_M N) (by kernel_rfl) (by kernel_rfl) (fun a => by kernel_rfl)
/-! loop.example/fossick/laws.eqItemS -/
def l_eqItemS_arg : Sh := ⟨[.pv (.sl (.pair .str (.sl (.pair (.int .i64) (.int .i64))))), .pv (.sl (.pair .str (.sl (.pair (.int .i64) (.int .i64)))))], []⟩
def l_eqItemS_ret : Sh := ⟨[.pv .bool], []⟩
def l_eqItemS_s1 : Sh := ⟨[.pv (.sl (.pair .str (.sl (.pair (.int .i64) (.int .i64))))), .pv (.sl (.pair .str (.sl (.pair (.int .i64) (.int .i64))))), .dead, .dead, .dead, .pv (.int .i64), .dead, .dead, .dead, .dead, .dead, .dead, .dead, .dead, .dead, .dead, .dead, .dead, .dead, .dead, .dead, .dead, .dead, .dead, .dead, .dead, .dead], []⟩
def l_eqItemS_h : Hint := (.seq .no (.seq .no (.seq (.seq .no (.block (.loop l_eqItemS_s1 .no))) .no)))
def l_eqItemS_m (N : Nat) (a : List ((List UInt8) × (List (Int × Int)))) (b : List ((List UInt8) × (List (Int × Int)))) : Option (Bool) :=
  (bif (!decide ((a.length : Int) = (b.length : Int))) then
    (some false)
    else
    (iter (fun (go : ((List ((List UInt8) × (List (Int × Int)))) × (List ((List UInt8) × (List (Int × Int)))) × Int) → Option Bool) (g : (List ((List UInt8) × (List (Int × Int)))) × (List ((List UInt8) × (List (Int × Int)))) × Int) => 
        match g with
        | (a2, b2, i) =>
        (bif (decide (i < (a2.length : Int))) then
          (Option.bind (idx a2 i) fun (e : (List UInt8) × (List (Int × Int))) =>
            (Option.bind (idx b2 i) fun (e2 : (List UInt8) × (List (Int × Int))) =>
              (Option.bind (l_eqItem_m N e.1 e.2 e2.1 e2.2) fun (r : Bool) =>
                (bif (!r) then
                  (some false)
                  else
                  (if fits (i + 1) then (go (a2, b2, (i + 1))) else none)))))
          else
          (some true))) N (a, b, 0)))
def l_eqItemS_M (N : Nat) : Model := ⟨l_eqItemS_arg, l_eqItemS_ret, fun a => l_eqItemS_m N a.1 a.2⟩
set_option maxRecDepth 1000000 in
theorem l_eqItemS_ok (N : Nat) : ModelOk Try.prog 37 (l_eqItemS_M N) :=
  modelOk_of (E := mkEnv [(58, l_eqItem_M N)] [] []) (mkEnv_ok (fnsOk_cons (l_eqItem_ok N) fnsOk_nil) _ _) Try.func37 (by kernel_rfl) rfl N l_eqItemS_h (l_eqItemS_M N) (by kernel_rfl) (by kernel_rfl) (fun a => by kernel_rfl)
/-! loop.example/fossick/laws.eqCache -/
def l_eqCache_arg : Sh := ⟨[.agg [.pv (.int .i64), .pv (.int .i64), .pv (.sl (.pair .str (.sl (.pair (.int .i64) (.int .i64)))))], .agg [.pv (.int .i64), .pv (.int .i64), .pv (.sl (.pair .str (.sl (.pair (.int .i64) (.int .i64)))))]], []⟩
def l_eqCache_ret : Sh := ⟨[.pv .bool], []⟩
def l_eqCache_h : Hint := .no
def l_eqCache_m (N : Nat) (a : Int) (a2 : Int) (a3 : List ((List UInt8) × (List (Int × Int)))) (b : Int) (b2 : Int) (b3 : List ((List UInt8) × (List (Int × Int)))) : Option (Bool) :=
  (bif (!decide (a = b)) then
    (some false)
    else
    (bif (!decide (a2 = b2)) then
      (some false)
      else
      (Option.bind (l_eqItemS_m N a3 b3) fun (r : Bool) =>
        (bif (!r) then
          (some false)
          else
          (some true)))))
def l_eqCache_M (N : Nat) : Model := ⟨l_eqCache_arg, l_eqCache_ret, fun a => l_eqCache_m N a.1 a.2.1 a.2.2.1 a.2.2.2.1 a.2.2.2.2.1 a.2.2.2.2.2⟩
set_option maxRecDepth 1000000 in
theorem l_eqCache_ok (N : Nat) : ModelOk Try.prog 12 (l_eqCache_M N) :=
  modelOk_of (E := mkEnv [(37, l_eqItemS_M N)] [] []) (mkEnv_ok (fnsOk_cons (l_eqItemS_ok N) fnsOk_nil) _ _) Try.func12 (by kernel_rfl) rfl N l_eqCache_h (l_eqCache_M N) (by kernel_rfl) (by kernel_rfl) (fun a => by kernel_rfl)
/-! loop.example/fossick/laws.markText -/
def l_markText_arg : Sh := ⟨[.pv (.int .i64)], []⟩
def l_markText_ret : Sh := ⟨[.pv .str], []⟩
def l_markText_s1 : Sh := ⟨[.pv (.int .i64), .dead, .dead, .pv .str, .dead, .dead, .dead, .dead, .dead, .dead, .dead, .dead, .dead, .dead, .dead, .dead, .dead, .dead, .dead, .dead], []⟩
def l_markText_h : Hint := (.seq .no (.seq .no (.seq .no (.seq (.block (.loop l_markText_s1 .no)) .no))))
def l_markText_m (N : Nat) (k : Int) : Option ((List UInt8)) :=
  (bif (decide (k ≤ 0)) then
    (some ([109, 48] : List UInt8))
    else
    (iter (fun (go : (Int × (List UInt8)) → Option ((List UInt8))) (g : Int × (List UInt8)) => 
        match g with
        | (k2, out) =>
        (bif (decide ((0 : Int) < k2)) then
          (if 10 ≠ 0 then
            (if fits (48 + (k2.tmod 10)) then (if (bytesOf ([(IntKind.u8.wrap (48 + (k2.tmod 10)))] : List Int)).length + out.length ≤ 9223372036854775807 then
                (if 10 ≠ 0 then
                  (if fits (k2.tdiv 10) then (go ((k2.tdiv 10), ((bytesOf ([(IntKind.u8.wrap (48 + (k2.tmod 10)))] : List Int)) ++ out))) else none)
                  else none)
                else none) else none)
            else none)
          else
          (if ([109] : List UInt8).length + out.length ≤ 9223372036854775807 then
            (some (([109] : List UInt8) ++ out))
            else none))) N (k, ([] : List UInt8))))
def l_markText_M (N : Nat) : Model := ⟨l_markText_arg, l_markText_ret, fun a => l_markText_m N a⟩
set_option maxRecDepth 1000000 in
theorem l_markText_ok (N : Nat) : ModelOk Try.prog 59 (l_markText_M N) :=
  modelOk_of (E := mkEnv [] [] []) (mkEnv_ok fnsOk_nil _ _) Try.func59 (by kernel_rfl) rfl N l_markText_h (l_markText_M N) (by kernel_rfl) (by kernel_rfl) (fun a => by kernel_rfl)
/-! loop.example/fossick/laws.markHitS -/
def l_markHitS_arg : Sh := ⟨[.mtk 800000 (.pair (.int .i64) (.int .i64)) 78 true, .pv (.int .i64)], []⟩
def l_markHitS_ret : Sh := ⟨[.pv (.int .i64), .mtk 800000 (.pair (.int .i64) (.int .i64)) 78 true], []⟩
def l_markHitS_s1 : Sh := ⟨[.mtk 800000 (.pair (.int .i64) (.int .i64)) 78 true, .pv (.int .i64), .dead, .dead, .dead, .pv (.int .i64), .dead, .dead, .dead, .dead, .dead, .dead, .dead, .dead, .dead, .dead, .dead, .dead, .dead, .dead, .dead, .dead, .dead, .dead, .dead, .dead, .dead], []⟩
def l_markHitS_h : Hint := (.seq .no (.seq (.seq .no (.block (.loop l_markHitS_s1 .no))) .no))
def l_markHitS_m (N : Nat) (a : List (Int × Int)) (k : Int) : Option (Int × (List (Int × Int))) :=
  (iter (fun (go : ((List (Int × Int)) × Int × Int) → Option (Int × (List (Int × Int)))) (g : (List (Int × Int)) × Int × Int) => 
      match g with
      | (a2, k2, i) =>
      (bif (decide (i < (a2.length : Int))) then
        (if 0 ≤ i ∧ i < (a2.length : Int) then
          (Option.bind (a2[i.toNat]?) fun (e : Int × Int) =>
            (if fits (k2 + 1) then (if 0 ≤ i ∧ i < ((a2.set i.toNat (k2, e.2)).length : Int) then
                (Option.bind ((a2.set i.toNat (k2, e.2))[i.toNat]?) fun (e2 : Int × Int) =>
                  (if fits ((k2 + 1) + 1) then (if fits (i + 1) then (go (((a2.set i.toNat (k2, e.2)).set i.toNat (e2.1, (k2 + 1))), ((k2 + 1) + 1), (i + 1))) else none) else none))
                else none) else none))
          else none)
        else
        (some (k2, a2)))) N (a, k, 0))
def l_markHitS_M (N : Nat) : Model := ⟨l_markHitS_arg, l_markHitS_ret, fun a => l_markHitS_m N a.1 a.2⟩
set_option maxRecDepth 1000000 in
theorem l_markHitS_ok (N : Nat) : ModelOk Try.prog 27 (l_markHitS_M N) :=
  modelOk_of (E := mkEnv [] [] [800000]) (mkEnv_ok fnsOk_nil _ _) Try.func27 (by kernel_rfl) rfl N l_markHitS_h (l_markHitS_M N) (by kernel_rfl) (by kernel_rfl) (fun a => by kernel_rfl)
/-! loop.example/fossick/laws.markItemS -/
def l_markItemS_arg : Sh := ⟨[.tre 800000 (.pair .str (.sl (.pair (.int .i64) (.int .i64)))) 46, .pv (.int .i64)], []⟩
def l_markItemS_ret : Sh := ⟨[.pv (.int .i64), .tre 800000 (.pair .str (.sl (.pair (.int .i64) (.int .i64)))) 46], []⟩
def l_markItemS_s1 : Sh := ⟨[.tre 800000 (.pair .str (.sl (.pair (.int .i64) (.int .i64)))) 46, .pv (.int .i64), .dead, .dead, .dead, .pv (.int .i64), .dead, .dead, .dead, .dead, .dead, .dead, .dead, .dead, .dead, .dead, .dead, .dead, .dead, .dead, .dead, .dead, .dead, .dead, .dead, .dead, .dead, .dead], []⟩
def l_markItemS_h : Hint := (.seq .no (.seq (.seq .no (.block (.loop l_markItemS_s1 .no))) .no))
def l_markItemS_m (N : Nat) (a : List ((List UInt8) × (List (Int × Int)))) (k : Int) : Option (Int × (List ((List UInt8) × (List (Int × Int))))) :=
  (iter (fun (go : ((List ((List UInt8) × (List (Int × Int)))) × Int × Int) → Option (Int × (List ((List UInt8) × (List (Int × Int)))))) (g : (List ((List UInt8) × (List (Int × Int)))) × Int × Int) => 
      match g with
      | (a2, k2, i) =>
      (bif (decide (i < (a2.length : Int))) then
        (Option.bind (l_markText_m N k2) fun (r : (List UInt8)) =>
          (if 0 ≤ i ∧ i < (a2.length : Int) then
            (Option.bind (a2[i.toNat]?) fun (e : (List UInt8) × (List (Int × Int))) =>
              (if fits (k2 + 1) then (if 0 ≤ i ∧ i < ((a2.set i.toNat (r, e.2)).length : Int) then
                  (Option.bind ((a2.set i.toNat (r, e.2))[i.toNat]?) fun (e2 : (List UInt8) × (List (Int × Int))) =>
                    (Option.bind (l_markHitS_m N e2.2 (k2 + 1)) fun (r2 : Int × (List (Int × Int))) =>
                      (if fits (i + 1) then (go (((a2.set i.toNat (r, e.2)).modify i.toNat fun y2 => (y2.1, r2.2)), r2.1, (i + 1))) else none)))
                  else none) else none))
            else none))
        else
        (some (k2, a2)))) N (a, k, 0))
def l_markItemS_M (N : Nat) : Model := ⟨l_markItemS_arg, l_markItemS_ret, fun a => l_markItemS_m N a.1 a.2⟩
set_option maxRecDepth 1000000 in
theorem l_markItemS_ok (N : Nat) : ModelOk Try.prog 38 (l_markItemS_M N) :=
  modelOk_of (E := mkEnv [(59, l_markText_M N), (27, l_markHitS_M N)] [] [800000]) (mkEnv_ok (fnsOk_cons (l_markText_ok N) (fnsOk_cons (l_markHitS_ok N) fnsOk_nil)) _ _) Try.func38 (by kernel_rfl) rfl N l_markItemS_h (l_markItemS_M N) (by kernel_rfl) (by kernel_rfl) (fun a => by kernel_rfl)
/-! loop.example/fossick/laws.markCache -/
def l_markCache_arg : Sh := ⟨[.agg [.pv (.int .i64), .pv (.int .i64), .tre 800002 (.pair .str (.sl (.pair (.int .i64) (.int .i64)))) 46], .pv (.int .i64)], []⟩
def l_markCache_ret : Sh := ⟨[.pv (.int .i64), .tre 800002 (.pair .str (.sl (.pair (.int .i64) (.int .i64)))) 46], []⟩
def l_markCache_h : Hint := .no
def l_markCache_m (N : Nat) (a : Int) (a2 : Int) (a3 : List ((List UInt8) × (List (Int × Int)))) (k : Int) : Option (Int × (List ((List UInt8) × (List (Int × Int))))) :=
  (Option.bind (l_markItemS_m N a3 k) fun (r : Int × (List ((List UInt8) × (List (Int × Int))))) =>
    (some (r.1, r.2)))
def l_markCache_M (N : Nat) : Model := ⟨l_markCache_arg, l_markCache_ret, fun a => l_markCache_m N a.1 a.2.1 a.2.2.1 a.2.2.2⟩
set_option maxRecDepth 1000000 in
theorem l_markCache_ok (N : Nat) : ModelOk Try.prog 13 (l_markCache_M N) :=
  modelOk_of (E := mkEnv [(38, l_markItemS_M N)] [] [800002]) (mkEnv_ok (fnsOk_cons (l_markItemS_ok N) fnsOk_nil) _ _) Try.func13 (by kernel_rfl) rfl N l_markCache_h (l_markCache_M N) (by kernel_rfl) (by kernel_rfl) (fun a => by kernel_rfl)
/-! loop.example/fossick/laws.heldHitS -/
def l_heldHitS_arg : Sh := ⟨[.pv (.sl (.pair (.int .i64) (.int .i64))), .pv (.int .i64)], []⟩
def l_heldHitS_ret : Sh := ⟨[.pv (.int .i64)], []⟩
def l_heldHitS_s1 : Sh := ⟨[.pv (.sl (.pair (.int .i64) (.int .i64))), .pv (.int .i64), .dead, .dead, .dead, .pv (.int .i64), .dead, .dead, .dead, .dead, .dead, .dead, .dead, .dead, .dead, .dead, .dead, .dead, .dead, .dead, .dead, .dead, .dead, .dead, .dead, .dead, .dead, .dead, .dead, .dead, .dead], []⟩
def l_heldHitS_h : Hint := (.seq .no (.seq (.seq .no (.block (.loop l_heldHitS_s1 .no))) .no))
def l_heldHitS_m (N : Nat) (a : List (Int × Int)) (k : Int) : Option (Int) :=
  (iter (fun (go : ((List (Int × Int)) × Int × Int) → Option Int) (g : (List (Int × Int)) × Int × Int) => 
      match g with
      | (a2, k2, i) =>
      (bif (decide (i < (a2.length : Int))) then
        (Option.bind (idx a2 i) fun (e : Int × Int) =>
          (bif (!decide (e.1 = k2)) then
            (some (-1))
            else
            (if fits (k2 + 1) then (Option.bind (idx a2 i) fun (e2 : Int × Int) =>
                (bif (!decide (e2.2 = (k2 + 1))) then
                  (some (-1))
                  else
                  (if fits ((k2 + 1) + 1) then (if fits (i + 1) then (go (a2, ((k2 + 1) + 1), (i + 1))) else none) else none))) else none)))
        else
        (some k2))) N (a, k, 0))
def l_heldHitS_M (N : Nat) : Model := ⟨l_heldHitS_arg, l_heldHitS_ret, fun a => l_heldHitS_m N a.1 a.2⟩
set_option maxRecDepth 1000000 in
theorem l_heldHitS_ok (N : Nat) : ModelOk Try.prog 28 (l_heldHitS_M N) :=
  modelOk_of (E := mkEnv [] [] []) (mkEnv_ok fnsOk_nil _ _) Try.func28 (by kernel_rfl) rfl N l_heldHitS_h (l_heldHitS_M N) (by kernel_rfl) (by kernel_rfl) (fun a => by kernel_rfl)
/-! loop.example/fossick/laws.heldItemS -/
def l_heldItemS_arg : Sh := ⟨[.pv (.sl (.pair .str (.sl (.pair (.int .i64) (.int .i64))))), .pv (.int .i64)], []⟩
def l_heldItemS_ret : Sh := ⟨[.pv (.int .i64)], []⟩
def l_heldItemS_s1 : Sh := ⟨[.pv (.sl (.pair .str (.sl (.pair (.int .i64) (.int .i64))))), .pv (.int .i64), .dead, .dead, .dead, .pv (.int .i64), .dead, .dead, .dead, .dead, .dead, .dead, .dead, .dead, .dead, .dead, .dead, .dead, .dead, .dead, .dead, .dead, .dead, .dead, .dead, .dead, .dead, .dead, .dead, .dead, .dead, .dead], []⟩
def l_heldItemS_h : Hint := (.seq .no (.seq (.seq .no (.block (.loop l_heldItemS_s1 .no))) .no))
def l_heldItemS_m (N : Nat) (a : List ((List UInt8) × (List (Int × Int)))) (k : Int) : Option (Int) :=
  (iter (fun (go : ((List ((List UInt8) × (List (Int × Int)))) × Int × Int) → Option Int) (g : (List ((List UInt8) × (List (Int × Int)))) × Int × Int) => 
      match g with
      | (a2, k2, i) =>
      (bif (decide (i < (a2.length : Int))) then
        (Option.bind (idx a2 i) fun (e : (List UInt8) × (List (Int × Int))) =>
          (Option.bind (l_markText_m N k2) fun (r : (List UInt8)) =>
            (bif (!decide (e.1 = r)) then
              (some (-1))
              else
              (if fits (k2 + 1) then (Option.bind (idx a2 i) fun (e2 : (List UInt8) × (List (Int × Int))) =>
                  (Option.bind (l_heldHitS_m N e2.2 (k2 + 1)) fun (r2 : Int) =>
                    (bif (decide (r2 < 0)) then
                      (some (-1))
                      else
                      (if fits (i + 1) then (go (a2, r2, (i + 1))) else none)))) else none))))
        else
        (some k2))) N (a, k, 0))
def l_heldItemS_M (N : Nat) : Model := ⟨l_heldItemS_arg, l_heldItemS_ret, fun a => l_heldItemS_m N a.1 a.2⟩
set_option maxRecDepth 1000000 in
theorem l_heldItemS_ok (N : Nat) : ModelOk Try.prog 39 (l_heldItemS_M N) :=
  modelOk_of (E := mkEnv [(59, l_markText_M N), (28, l_heldHitS_M N)] [] []) (mkEnv_ok (fnsOk_cons (l_markText_ok N) (fnsOk_cons (l_heldHitS_ok N) fnsOk_nil)) _ _) Try.func39 (by kernel_rfl) rfl N l_heldItemS_h (l_heldItemS_M N) (by kernel_rfl) (by kernel_rfl) (fun a => by kernel_rfl)
/-! loop.example/fossick/laws.heldCache -/
def l_heldCache_arg : Sh := ⟨[.agg [.pv (.int .i64), .pv (.int .i64), .pv (.sl (.pair .str (.sl (.pair (.int .i64) (.int .i64)))))], .pv (.int .i64)], []⟩
def l_heldCache_ret : Sh := ⟨[.pv (.int .i64)], []⟩
def l_heldCache_h : Hint := .no
def l_heldCache_m (N : Nat) (a : Int) (a2 : Int) (a3 : List ((List UInt8) × (List (Int × Int)))) (k : Int) : Option (Int) :=
  (Option.bind (l_heldItemS_m N a3 k) fun (r : Int) =>
    (bif (decide (r < 0)) then
      (some (-1))
      else
      (some r)))
def l_heldCache_M (N : Nat) : Model := ⟨l_heldCache_arg, l_heldCache_ret, fun a => l_heldCache_m N a.1 a.2.1 a.2.2.1 a.2.2.2⟩
set_option maxRecDepth 1000000 in
theorem l_heldCache_ok (N : Nat) : ModelOk Try.prog 14 (l_heldCache_M N) :=
  modelOk_of (E := mkEnv [(39, l_heldItemS_M N)] [] []) (mkEnv_ok (fnsOk_cons (l_heldItemS_ok N) fnsOk_nil) _ _) Try.func14 (by kernel_rfl) rfl N l_heldCache_h (l_heldCache_M N) (by kernel_rfl) (by kernel_rfl) (fun a => by kernel_rfl)
/-! loop.example/fossick/laws.FnExactCacheNew -/
def l_FnExactCacheNew_arg : Sh := ⟨[.pv (.int .i64)], []⟩
def l_FnExactCacheNew_ret : Sh := ⟨[.pv .bool], []⟩
def l_FnExactCacheNew_h : Hint := .no
def l_FnExactCacheNew_m (N : Nat) (aMost : Int) : Option (Bool) :=
  (Option.bind (s_CacheNew_m N aMost) fun (r : Int × Int) =>
    (Option.bind (i_CacheNew_m N aMost) fun (r2 : Int × Int × (List ((List UInt8) × (List (Int × Int))))) =>
      (Option.bind (l_eqCache_m N r2.1 r2.2.1 r2.2.2 r.1 r.2 ([] : List ((List UInt8) × (List (Int × Int))))) fun (r3 : Bool) =>
        (bif (!r3) then
          (some false)
          else
          (Option.bind (l_markCache_m N r2.1 r2.2.1 r2.2.2 1) fun (r4 : Int × (List ((List UInt8) × (List (Int × Int))))) =>
            (Option.bind (l_heldCache_m N r2.1 r2.2.1 r4.2 1) fun (r5 : Int) =>
              (bif (decide (r5 < 0)) then
                (some false)
                else
                (bif (!decide (r5 = r4.1)) then
                  (some false)
                  else
                  (Option.bind (i_CacheNew_m N aMost) fun (r6 : Int × Int × (List ((List UInt8) × (List (Int × Int))))) =>
                    (Option.bind (l_eqCache_m N r6.1 r6.2.1 r6.2.2 r.1 r.2 ([] : List ((List UInt8) × (List (Int × Int))))) fun (r7 : Bool) =>
                      (bif (!r7) then
                        (some false)
                        else
                        (Option.bind (l_heldCache_m N r2.1 r2.2.1 r4.2 1) fun (r8 : Int) =>
                          (bif (decide (r8 < 0)) then
                            (some false)
                            else
                            (bif (!decide (r8 = r4.1)) then
                              (some false)
                              else
                              (some true)))))))))))))))
def l_FnExactCacheNew_M (N : Nat) : Model := ⟨l_FnExactCacheNew_arg, l_FnExactCacheNew_ret, fun a => l_FnExactCacheNew_m N a⟩
set_option maxRecDepth 1000000 in
theorem l_FnExactCacheNew_ok (N : Nat) : ModelOk Try.prog 3 (l_FnExactCacheNew_M N) :=
  modelOk_of (E := mkEnv [(10, s_CacheNew_M N), (11, i_CacheNew_M N), (12, l_eqCache_M N), (13, l_markCache_M N), (14, l_heldCache_M N)] [] [] [11, 14, 21, 28, 31, 35]) (mkEnv_ok (fnsOk_cons (s_CacheNew_ok N) (fnsOk_cons (i_CacheNew_ok N) (fnsOk_cons (l_eqCache_ok N) (fnsOk_cons (l_markCache_ok N) (fnsOk_cons (l_heldCache_ok N) fnsOk_nil))))) _ _ _) Try.func3 (by kernel_rfl) rfl N l_FnExactCacheNew_h (l_FnExactCacheNew_M N) (by kernel_rfl) (by kernel_rfl) (fun a => by kernel_rfl)
/-! loop.example/fossick/spec.l30Open -/
def s_l30Open_arg : Sh := ⟨[.pv (.sl (.int .u8))], []⟩
def s_l30Open_ret : Sh := ⟨[.box 10 0], [(10, false, [.pv (.sl (.int .u8)), .pv (.int .i64)])]⟩
def s_l30Open_h : Hint := .no
def s_l30Open_m (N : Nat) (code : List Int) : Option ((List Int) × Int) :=
  (bif (decide ((2000 : Int) < (code.length : Int))) then
    (Option.bind (cut code 0 2000) fun (y : List Int) =>
      (some (y, 0)))
    else
    (some (code, 0)))
def s_l30Open_M (N : Nat) : Model := ⟨s_l30Open_arg, s_l30Open_ret, fun a => s_l30Open_m N a⟩
set_option maxRecDepth 1000000 in
theorem s_l30Open_ok (N : Nat) : ModelOk Try.prog 40 (s_l30Open_M N) :=
  modelOk_of (E := mkEnv [] [] []) (mkEnv_ok fnsOk_nil _ _) Try.func40 (by kernel_rfl) rfl N s_l30Open_h (s_l30Open_M N) (by kernel_rfl) (by kernel_rfl) (fun a => by kernel_rfl)
/-! (*loop.example/fossick/spec.l30Rd).pick -/
def s_l30Rd_pick_arg : Sh := ⟨[.box 900000 0, .pv (.int .i64)], [(900000, false, [.pv (.sl (.int .u8)), .pv (.int .i64)])]⟩
def s_l30Rd_pick_ret : Sh := ⟨[.pv (.int .i64)], [(900000, false, [.pv (.sl (.int .u8)), .pv (.int .i64)])]⟩
def s_l30Rd_pick_h : Hint := .no
def s_l30Rd_pick_m (N : Nat) (n : Int) (b : List Int) (b2 : Int) : Option (Int × (List Int) × Int) :=
  (if fits (b2 + 1) then (bif (decide (n < 1)) then
      (some (0, b, (b2 + 1)))
      else
      (bif (decide ((b.length : Int) = 0)) then
        (some (0, b, (b2 + 1)))
        else
        (if fits ((b2 + 1) - 1) then (bif (decide (((b2 + 1) - 1) < (b.length : Int))) then
            (Option.bind (idx b ((b2 + 1) - 1)) fun (e : Int) =>
              (if n ≠ 0 then
                (some (((IntKind.i64.wrap e).tmod n), b, (b2 + 1)))
                else none))
            else
            (if (b.length : Int) ≠ 0 then
              (Option.bind (idx b (((b2 + 1) - 1).tmod (b.length : Int))) fun (e2 : Int) =>
                (if fits ((IntKind.i64.wrap e2) * 131) then (if fits (((b2 + 1) - 1) * 7) then (if fits ((((b2 + 1) - 1) * 7) + 3) then (if (b.length : Int) ≠ 0 then
                        (Option.bind (idx b (((((b2 + 1) - 1) * 7) + 3).tmod (b.length : Int))) fun (e3 : Int) =>
                          (if fits ((IntKind.i64.wrap e3) * 1117) then (if fits (((IntKind.i64.wrap e2) * 131) + ((IntKind.i64.wrap e3) * 1117)) then (if fits (((b2 + 1) - 1) * 29) then (if fits ((((IntKind.i64.wrap e2) * 131) + ((IntKind.i64.wrap e3) * 1117)) + (((b2 + 1) - 1) * 29)) then (if (b.length : Int) ≠ 0 then
                                    (if fits (((b2 + 1) - 1).tdiv (b.length : Int)) then (if fits ((((b2 + 1) - 1).tdiv (b.length : Int)) * 53) then (if fits (((((IntKind.i64.wrap e2) * 131) + ((IntKind.i64.wrap e3) * 1117)) + (((b2 + 1) - 1) * 29)) + ((((b2 + 1) - 1).tdiv (b.length : Int)) * 53)) then (if 64 ≠ 0 then
                                            (if fits ((((((IntKind.i64.wrap e2) * 131) + ((IntKind.i64.wrap e3) * 1117)) + (((b2 + 1) - 1) * 29)) + ((((b2 + 1) - 1).tdiv (b.length : Int)) * 53)).tdiv 64) then (if n ≠ 0 then
                                                (some (((bitsI .xor .i64 (((((IntKind.i64.wrap e2) * 131) + ((IntKind.i64.wrap e3) * 1117)) + (((b2 + 1) - 1) * 29)) + ((((b2 + 1) - 1).tdiv (b.length : Int)) * 53)) ((((((IntKind.i64.wrap e2) * 131) + ((IntKind.i64.wrap e3) * 1117)) + (((b2 + 1) - 1) * 29)) + ((((b2 + 1) - 1).tdiv (b.length : Int)) * 53)).tdiv 64)).tmod n), b, (b2 + 1)))
                                                else none) else none)
                                            else none) else none) else none) else none)
                                    else none) else none) else none) else none) else none))
                        else none) else none) else none) else none))
              else none)) else none))) else none)
def s_l30Rd_pick_M (N : Nat) : Model := ⟨s_l30Rd_pick_arg, s_l30Rd_pick_ret, fun a => s_l30Rd_pick_m N a.1 a.2.1 a.2.2⟩
set_option maxRecDepth 1000000 in
theorem s_l30Rd_pick_ok (N : Nat) : ModelOk Try.prog 47 (s_l30Rd_pick_M N) :=
  modelOk_of (E := mkEnv [] [] [900000]) (mkEnv_ok fnsOk_nil _ _) Try.func47 (by kernel_rfl) rfl N s_l30Rd_pick_h (s_l30Rd_pick_M N) (by kernel_rfl) (by kernel_rfl) (fun a => by kernel_rfl)
/-! (*loop.example/fossick/spec.l30Rd).one -/
def s_l30Rd_one_arg : Sh := ⟨[.box 900000 0, .pv (.sl (.int .i64))], [(900000, false, [.pv (.sl (.int .u8)), .pv (.int .i64)])]⟩
def s_l30Rd_one_ret : Sh := ⟨[.pv (.int .i64)], [(900000, false, [.pv (.sl (.int .u8)), .pv (.int .i64)])]⟩
def s_l30Rd_one_h : Hint := .no
def s_l30Rd_one_m (N : Nat) (list : List Int) (b : List Int) (b2 : Int) : Option (Int × (List Int) × Int) :=
  (Option.bind (s_l30Rd_pick_m N (list.length : Int) b b2) fun (r : Int × (List Int) × Int) =>
    (Option.bind (idx list r.1) fun (e : Int) =>
      (some (e, r.2.1, r.2.2))))
def s_l30Rd_one_M (N : Nat) : Model := ⟨s_l30Rd_one_arg, s_l30Rd_one_ret, fun a => s_l30Rd_one_m N a.1 a.2.1 a.2.2⟩
set_option maxRecDepth 1000000 in
theorem s_l30Rd_one_ok (N : Nat) : ModelOk Try.prog 41 (s_l30Rd_one_M N) :=
  modelOk_of (E := mkEnv [(47, s_l30Rd_pick_M N)] [] [900000]) (mkEnv_ok (fnsOk_cons (s_l30Rd_pick_ok N) fnsOk_nil) _ _) Try.func41 (by kernel_rfl) rfl N s_l30Rd_one_h (s_l30Rd_one_M N) (by kernel_rfl) (by kernel_rfl) (fun a => by kernel_rfl)
/-! loop.example/fossick/spec.DrawCacheNew -/
def s_DrawCacheNew_arg : Sh := ⟨[.pv (.sl (.int .u8))], []⟩
def s_DrawCacheNew_ret : Sh := ⟨[.pv (.int .i64)], []⟩
def s_DrawCacheNew_h : Hint := .no
def s_DrawCacheNew_m (N : Nat) (code : List Int) : Option (Int) :=
  (Option.bind (s_l30Open_m N code) fun (r : (List Int) × Int) =>
    (Option.bind (s_l30Rd_one_m N ([1, 3, 5, 0, 6] : List Int) r.1 r.2) fun (r2 : Int × (List Int) × Int) =>
      (some r2.1)))
def s_DrawCacheNew_M (N : Nat) : Model := ⟨s_DrawCacheNew_arg, s_DrawCacheNew_ret, fun a => s_DrawCacheNew_m N a⟩
set_option maxRecDepth 1000000 in
theorem s_DrawCacheNew_ok (N : Nat) : ModelOk Try.prog 15 (s_DrawCacheNew_M N) :=
  modelOk_of (E := mkEnv [(40, s_l30Open_M N), (41, s_l30Rd_one_M N)] [] []) (mkEnv_ok (fnsOk_cons (s_l30Open_ok N) (fnsOk_cons (s_l30Rd_one_ok N) fnsOk_nil)) _ _) Try.func15 (by kernel_rfl) rfl N s_DrawCacheNew_h (s_DrawCacheNew_M N) (by kernel_rfl) (by kernel_rfl) (fun a => by kernel_rfl)
/-! loop.example/fossick/laws.foHits -/
def l_foHits_arg : Sh := ⟨[.pv (.sl (.pair (.int .i64) (.int .i64))), .pv (.sl (.pair (.int .i64) (.int .i64)))], []⟩
def l_foHits_ret : Sh := ⟨[.pv .bool], []⟩
def l_foHits_s1 : Sh := ⟨[.pv (.sl (.pair (.int .i64) (.int .i64))), .pv (.sl (.pair (.int .i64) (.int .i64))), .dead, .dead, .dead, .pv (.int .i64), .dead, .dead, .dead, .dead, .dead, .dead, .dead, .dead, .dead, .dead, .dead, .dead, .dead, .dead, .dead, .dead, .dead, .dead, .dead, .dead], []⟩
def l_foHits_h : Hint := (.seq .no (.seq .no (.seq (.seq .no (.block (.loop l_foHits_s1 .no))) .no)))
def l_foHits_m (N : Nat) (a : List (Int × Int)) (b : List (Int × Int)) : Option (Bool) :=
  (bif (!decide ((a.length : Int) = (b.length : Int))) then
    (some false)
    else
    (iter (fun (go : ((List (Int × Int)) × (List (Int × Int)) × Int) → Option Bool) (g : (List (Int × Int)) × (List (Int × Int)) × Int) => 
        match g with
        | (a2, b2, i) =>
        (bif (decide (i < (a2.length : Int))) then
          (Option.bind (idx a2 i) fun (e : Int × Int) =>
            (Option.bind (idx b2 i) fun (e2 : Int × Int) =>
              (bif (!((decide (e.1 = e2.1)) && (decide (e.2 = e2.2)))) then
                (some false)
                else
                (if fits (i + 1) then (go (a2, b2, (i + 1))) else none))))
          else
          (some true))) N (a, b, 0)))
def l_foHits_M (N : Nat) : Model := ⟨l_foHits_arg, l_foHits_ret, fun a => l_foHits_m N a.1 a.2⟩
set_option maxRecDepth 1000000 in
theorem l_foHits_ok (N : Nat) : ModelOk Try.prog 24 (l_foHits_M N) :=
  modelOk_of (E := mkEnv [] [] []) (mkEnv_ok fnsOk_nil _ _) Try.func24 (by kernel_rfl) rfl N l_foHits_h (l_foHits_M N) (by kernel_rfl) (by kernel_rfl) (fun a => by kernel_rfl)
/-! loop.example/fossick/laws.foItems -/
def l_foItems_arg : Sh := ⟨[.pv (.sl (.pair .str (.sl (.pair (.int .i64) (.int .i64))))), .pv (.sl (.pair .str (.sl (.pair (.int .i64) (.int .i64)))))], []⟩
def l_foItems_ret : Sh := ⟨[.pv .bool], []⟩
def l_foItems_s1 : Sh := ⟨[.pv (.sl (.pair .str (.sl (.pair (.int .i64) (.int .i64))))), .pv (.sl (.pair .str (.sl (.pair (.int .i64) (.int .i64))))), .dead, .dead, .dead, .pv (.int .i64), .dead, .dead, .dead, .dead, .dead, .dead, .dead, .dead, .dead, .dead, .dead, .dead, .dead, .dead, .dead, .dead, .dead, .dead, .dead, .dead, .dead, .dead, .dead, .dead, .dead, .dead, .dead, .dead, .dead, .dead, .dead, .dead, .dead, .dead, .dead, .dead], []⟩
def l_foItems_h : Hint := (.seq .no (.seq .no (.seq (.seq .no (.block (.loop l_foItems_s1 .no))) .no)))
def l_foItems_m (N : Nat) (a : List ((List UInt8) × (List (Int × Int)))) (b : List ((List UInt8) × (List (Int × Int)))) : Option (Bool) :=
  (bif (!decide ((a.length : Int) = (b.length : Int))) then
    (some false)
    else
    (iter (fun (go : ((List ((List UInt8) × (List (Int × Int)))) × (List ((List UInt8) × (List (Int × Int)))) × Int) → Option Bool) (g : (List ((List UInt8) × (List (Int × Int)))) × (List ((List UInt8) × (List (Int × Int)))) × Int) => 
        match g with
        | (a2, b2, i) =>
        (bif (decide (i < (a2.length : Int))) then
          (Option.bind (idx a2 i) fun (e : (List UInt8) × (List (Int × Int))) =>
            (Option.bind (idx b2 i) fun (e2 : (List UInt8) × (List (Int × Int))) =>
              (bif (!decide (e.1 = e2.1)) then
                (some false)
                else
                (Option.bind (idx a2 i) fun (e3 : (List UInt8) × (List (Int × Int))) =>
                  (Option.bind (idx b2 i) fun (e4 : (List UInt8) × (List (Int × Int))) =>
                    (Option.bind (l_foHits_m N e3.2 e4.2) fun (r : Bool) =>
                      (bif (!r) then
                        (some false)
                        else
                        (if fits (i + 1) then (go (a2, b2, (i + 1))) else none))))))))
          else
          (some true))) N (a, b, 0)))
def l_foItems_M (N : Nat) : Model := ⟨l_foItems_arg, l_foItems_ret, fun a => l_foItems_m N a.1 a.2⟩
set_option maxRecDepth 1000000 in
theorem l_foItems_ok (N : Nat) : ModelOk Try.prog 25 (l_foItems_M N) :=
  modelOk_of (E := mkEnv [(24, l_foHits_M N)] [] []) (mkEnv_ok (fnsOk_cons (l_foHits_ok N) fnsOk_nil) _ _) Try.func25 (by kernel_rfl) rfl N l_foItems_h (l_foItems_M N) (by kernel_rfl) (by kernel_rfl) (fun a => by kernel_rfl)
/-! loop.example/fossick/laws.foCache -/
def l_foCache_arg : Sh := ⟨[.agg [.pv (.int .i64), .pv (.int .i64), .pv (.sl (.pair .str (.sl (.pair (.int .i64) (.int .i64)))))], .agg [.pv (.int .i64), .pv (.int .i64), .pv (.sl (.pair .str (.sl (.pair (.int .i64) (.int .i64)))))]], []⟩
def l_foCache_ret : Sh := ⟨[.pv .bool], []⟩
def l_foCache_h : Hint := .no
def l_foCache_m (N : Nat) (a : Int) (a2 : Int) (a3 : List ((List UInt8) × (List (Int × Int)))) (b : Int) (b2 : Int) (b3 : List ((List UInt8) × (List (Int × Int)))) : Option (Bool) :=
  (bif (decide (a = b)) then
    (bif (decide (a2 = b2)) then
      (Option.bind (l_foItems_m N a3 b3) fun (r : Bool) =>
        (some r))
      else
      (some false))
    else
    (some false))
def l_foCache_M (N : Nat) : Model := ⟨l_foCache_arg, l_foCache_ret, fun a => l_foCache_m N a.1 a.2.1 a.2.2.1 a.2.2.2.1 a.2.2.2.2.1 a.2.2.2.2.2⟩
set_option maxRecDepth 1000000 in
theorem l_foCache_ok (N : Nat) : ModelOk Try.prog 16 (l_foCache_M N) :=
  modelOk_of (E := mkEnv [(25, l_foItems_M N)] [] []) (mkEnv_ok (fnsOk_cons (l_foItems_ok N) fnsOk_nil) _ _) Try.func16 (by kernel_rfl) rfl N l_foCache_h (l_foCache_M N) (by kernel_rfl) (by kernel_rfl) (fun a => by kernel_rfl)
/-! loop.example/fossick/impl.hasDoc$1 -/
def i_hasDoc_1_arg : Sh := ⟨[.agg [.pv (.int .i64), .pv (.int .i64)], .ptr (.int .i64)], []⟩
def i_hasDoc_1_ret : Sh := ⟨[.pv .bool], []⟩
def i_hasDoc_1_h : Hint := .no
def i_hasDoc_1_m (N : Nat) (h : Int) (h2 : Int) (t1 : Int) : Option (Bool) :=
  (some (decide (h = t1)))
def i_hasDoc_1_M (N : Nat) : Model := ⟨i_hasDoc_1_arg, i_hasDoc_1_ret, fun a => i_hasDoc_1_m N a.1 a.2.1 a.2.2⟩
set_option maxRecDepth 1000000 in
theorem i_hasDoc_1_ok (N : Nat) : ModelOk Try.prog 69 (i_hasDoc_1_M N) :=
  modelOk_of (E := mkEnv [] [] []) (mkEnv_ok fnsOk_nil _ _) Try.func69 (by kernel_rfl) rfl N i_hasDoc_1_h (i_hasDoc_1_M N) (by kernel_rfl) (by kernel_rfl) (fun a => by kernel_rfl)
/-! slices.IndexFunc[[]loop.example/fossick/impl.Hit,loop.example/fossick/impl.Hit] -/
def k_slices_IndexFunc_200_arg : Sh := ⟨[.pv (.sl (.pair (.int .i64) (.int .i64))), .clo 69 [.ptr (.int .i64)]], []⟩
def k_slices_IndexFunc_200_ret : Sh := ⟨[.pv (.int .i64)], []⟩
def k_slices_IndexFunc_200_s1 : Sh := ⟨[.pv (.sl (.pair (.int .i64) (.int .i64))), .clo 69 [.ptr (.int .i64)], .dead, .dead, .dead, .dead, .dead, .pv (.int .i64), .pv (.int .i64), .dead, .dead, .dead, .dead, .dead, .dead, .dead, .dead, .dead, .dead], []⟩
def k_slices_IndexFunc_200_h : Hint := (.seq .no (.seq (.seq .no (.block (.loop k_slices_IndexFunc_200_s1 .no))) .no))
def k_slices_IndexFunc_200_m (N : Nat) (s : List (Int × Int)) (f : Int) : Option (Int) :=
  (iter (fun (go : ((List (Int × Int)) × Int × Int × Int) → Option Int) (g : (List (Int × Int)) × Int × Int × Int) => 
      match g with
      | (s2, f2, t7, t8) =>
      (bif (decide (t8 < t7)) then
        (Option.bind (idx s2 t8) fun (e : Int × Int) =>
          (Option.bind (i_hasDoc_1_m N e.1 e.2 f2) fun (r : Bool) =>
            (bif r then
              (some t8)
              else
              (if fits (t8 + 1) then (go (s2, f2, t7, (t8 + 1))) else none))))
        else
        (some (-1)))) N (s, f, (s.length : Int), 0))
def k_slices_IndexFunc_200_M (N : Nat) : Model := ⟨k_slices_IndexFunc_200_arg, k_slices_IndexFunc_200_ret, fun a => k_slices_IndexFunc_200_m N a.1 a.2⟩
set_option maxRecDepth 1000000 in
theorem k_slices_IndexFunc_200_ok (N : Nat) : ModelOk Try.prog 73 (k_slices_IndexFunc_200_M N) :=
  modelOk_of (E := mkEnv [(69, i_hasDoc_1_M N)] [] []) (mkEnv_ok (fnsOk_cons (i_hasDoc_1_ok N) fnsOk_nil) _ _) Try.func73 (by kernel_rfl) rfl N k_slices_IndexFunc_200_h (k_slices_IndexFunc_200_M N) (by kernel_rfl) (by kernel_rfl) (fun a => by kernel_rfl)
/-! slices.ContainsFunc[[]loop.example/fossick/impl.Hit,loop.example/fossick/impl.Hit] -/
def k_slices_ContainsFunc_50_arg : Sh := ⟨[.pv (.sl (.pair (.int .i64) (.int .i64))), .clo 69 [.ptr (.int .i64)]], []⟩
def k_slices_ContainsFunc_50_ret : Sh := ⟨[.pv .bool], []⟩
def k_slices_ContainsFunc_50_h : Hint := .no
def k_slices_ContainsFunc_50_m (N : Nat) (s : List (Int × Int)) (f : Int) : Option (Bool) :=
  (Option.bind (k_slices_IndexFunc_200_m N s f) fun (r : Int) =>
    (some (decide ((0 : Int) ≤ r))))
def k_slices_ContainsFunc_50_M (N : Nat) : Model := ⟨k_slices_ContainsFunc_50_arg, k_slices_ContainsFunc_50_ret, fun a => k_slices_ContainsFunc_50_m N a.1 a.2⟩
set_option maxRecDepth 1000000 in
theorem k_slices_ContainsFunc_50_ok (N : Nat) : ModelOk Try.prog 68 (k_slices_ContainsFunc_50_M N) :=
  modelOk_of (E := mkEnv [(73, k_slices_IndexFunc_200_M N)] [] []) (mkEnv_ok (fnsOk_cons (k_slices_IndexFunc_200_ok N) fnsOk_nil) _ _) Try.func68 (by kernel_rfl) rfl N k_slices_ContainsFunc_50_h (k_slices_ContainsFunc_50_M N) (by kernel_rfl) (by kernel_rfl) (fun a => by kernel_rfl)
/-! loop.example/fossick/impl.hasDoc -/
def i_hasDoc_arg : Sh := ⟨[.pv (.sl (.pair (.int .i64) (.int .i64))), .pv (.int .i64)], []⟩
def i_hasDoc_ret : Sh := ⟨[.pv .bool], []⟩
def i_hasDoc_h : Hint := .no
def i_hasDoc_m (N : Nat) (list : List (Int × Int)) (id : Int) : Option (Bool) :=
  (Option.bind (k_slices_ContainsFunc_50_m N list id) fun (r : Bool) =>
    (some r))
def i_hasDoc_M (N : Nat) : Model := ⟨i_hasDoc_arg, i_hasDoc_ret, fun a => i_hasDoc_m N a.1 a.2⟩
set_option maxRecDepth 1000000 in
theorem i_hasDoc_ok (N : Nat) : ModelOk Try.prog 55 (i_hasDoc_M N) :=
  modelOk_of (E := mkEnv [(68, k_slices_ContainsFunc_50_M N)] [] []) (mkEnv_ok (fnsOk_cons (k_slices_ContainsFunc_50_ok N) fnsOk_nil) _ _) Try.func55 (by kernel_rfl) rfl N i_hasDoc_h (i_hasDoc_M N) (by kernel_rfl) (by kernel_rfl) (fun a => by kernel_rfl)
/-! cmp.isNaN[int] -/
def k_cmp_isNaN_538_arg : Sh := ⟨[.pv (.int .i64)], []⟩
def k_cmp_isNaN_538_ret : Sh := ⟨[.pv .bool], []⟩
def k_cmp_isNaN_538_h : Hint := .no
def k_cmp_isNaN_538_m (N : Nat) (x : Int) : Option (Bool) :=
  (some (!decide (x = x)))
def k_cmp_isNaN_538_M (N : Nat) : Model := ⟨k_cmp_isNaN_538_arg, k_cmp_isNaN_538_ret, fun a => k_cmp_isNaN_538_m N a⟩
set_option maxRecDepth 1000000 in
theorem k_cmp_isNaN_538_ok (N : Nat) : ModelOk Try.prog 74 (k_cmp_isNaN_538_M N) :=
  modelOk_of (E := mkEnv [] [] []) (mkEnv_ok fnsOk_nil _ _) Try.func74 (by kernel_rfl) rfl N k_cmp_isNaN_538_h (k_cmp_isNaN_538_M N) (by kernel_rfl) (by kernel_rfl) (fun a => by kernel_rfl)
/-! cmp.Compare[int] -/
def k_cmp_Compare_992_arg : Sh := ⟨[.pv (.int .i64), .pv (.int .i64)], []⟩
def k_cmp_Compare_992_ret : Sh := ⟨[.pv (.int .i64)], []⟩
def k_cmp_Compare_992_h : Hint := .no
def k_cmp_Compare_992_m (N : Nat) (x : Int) (y : Int) : Option (Int) :=
  (Option.bind (k_cmp_isNaN_538_m N x) fun (r : Bool) =>
    (Option.bind (k_cmp_isNaN_538_m N y) fun (r2 : Bool) =>
      (bif r then
        (bif r2 then
          (some 0)
          else
          (some (-1)))
        else
        (bif r2 then
          (some 1)
          else
          (bif (decide (x < y)) then
            (some (-1))
            else
            (bif (decide (y < x)) then
              (some 1)
              else
              (some 0)))))))
def k_cmp_Compare_992_M (N : Nat) : Model := ⟨k_cmp_Compare_992_arg, k_cmp_Compare_992_ret, fun a => k_cmp_Compare_992_m N a.1 a.2⟩
set_option maxRecDepth 1000000 in
theorem k_cmp_Compare_992_ok (N : Nat) : ModelOk Try.prog 71 (k_cmp_Compare_992_M N) :=
  modelOk_of (E := mkEnv [(74, k_cmp_isNaN_538_M N)] [] []) (mkEnv_ok (fnsOk_cons (k_cmp_isNaN_538_ok N) fnsOk_nil) _ _) Try.func71 (by kernel_rfl) rfl N k_cmp_Compare_992_h (k_cmp_Compare_992_M N) (by kernel_rfl) (by kernel_rfl) (fun a => by kernel_rfl)
/-! cmp.Or[int] -/
def k_cmp_Or_892_arg : Sh := ⟨[.pv (.sl (.int .i64))], []⟩
def k_cmp_Or_892_ret : Sh := ⟨[.pv (.int .i64)], []⟩
def k_cmp_Or_892_s1 : Sh := ⟨[.dead, .dead, .dead, .pv (.int .i64), .dead, .dead, .pv (.sl (.int .i64)), .pv (.int .i64), .pv (.int .i64), .dead, .dead, .dead, .dead, .dead, .dead, .dead, .dead, .dead], []⟩
def k_cmp_Or_892_h : Hint := (.seq .no (.seq .no (.seq (.seq .no (.block (.loop k_cmp_Or_892_s1 .no))) .no)))
def k_cmp_Or_892_m (N : Nat) (vals : List Int) : Option (Int) :=
  (iter (fun (go : (Int × (List Int) × Int × Int) → Option Int) (g : Int × (List Int) × Int × Int) => 
      match g with
      | (zero, t6, t7, t8) =>
      (bif (decide (t8 < t7)) then
        (Option.bind (idx t6 t8) fun (e : Int) =>
          (bif (!decide (e = zero)) then
            (some e)
            else
            (if fits (t8 + 1) then (go (zero, t6, t7, (t8 + 1))) else none)))
        else
        (some zero))) N (0, vals, (vals.length : Int), 0))
def k_cmp_Or_892_M (N : Nat) : Model := ⟨k_cmp_Or_892_arg, k_cmp_Or_892_ret, fun a => k_cmp_Or_892_m N a⟩
set_option maxRecDepth 1000000 in
theorem k_cmp_Or_892_ok (N : Nat) : ModelOk Try.prog 70 (k_cmp_Or_892_M N) :=
  modelOk_of (E := mkEnv [] [] []) (mkEnv_ok fnsOk_nil _ _) Try.func70 (by kernel_rfl) rfl N k_cmp_Or_892_h (k_cmp_Or_892_M N) (by kernel_rfl) (by kernel_rfl) (fun a => by kernel_rfl)
/-! loop.example/fossick/impl.hitOrder -/
def i_hitOrder_arg : Sh := ⟨[.agg [.pv (.int .i64), .pv (.int .i64)], .agg [.pv (.int .i64), .pv (.int .i64)]], []⟩
def i_hitOrder_ret : Sh := ⟨[.pv (.int .i64)], []⟩
def i_hitOrder_h : Hint := .no
def i_hitOrder_m (N : Nat) (a : Int) (a2 : Int) (b : Int) (b2 : Int) : Option (Int) :=
  (Option.bind (k_cmp_Compare_992_m N b2 a2) fun (r : Int) =>
    (Option.bind (k_cmp_Compare_992_m N a b) fun (r2 : Int) =>
      (Option.bind (k_cmp_Or_892_m N ([r, r2] : List Int)) fun (r3 : Int) =>
        (some r3))))
def i_hitOrder_M (N : Nat) : Model := ⟨i_hitOrder_arg, i_hitOrder_ret, fun a => i_hitOrder_m N a.1 a.2.1 a.2.2.1 a.2.2.2⟩
set_option maxRecDepth 1000000 in
theorem i_hitOrder_ok (N : Nat) : ModelOk Try.prog 56 (i_hitOrder_M N) :=
  modelOk_of (E := mkEnv [(71, k_cmp_Compare_992_M N), (70, k_cmp_Or_892_M N)] [] []) (mkEnv_ok (fnsOk_cons (k_cmp_Compare_992_ok N) (fnsOk_cons (k_cmp_Or_892_ok N) fnsOk_nil)) _ _) Try.func56 (by kernel_rfl) rfl N i_hitOrder_h (i_hitOrder_M N) (by kernel_rfl) (by kernel_rfl) (fun a => by kernel_rfl)
/-! loop.example/fossick/impl.HitsOk -/
def i_HitsOk_arg : Sh := ⟨[.pv (.sl (.pair (.int .i64) (.int .i64)))], []⟩
def i_HitsOk_ret : Sh := ⟨[.pv .bool], []⟩
def i_HitsOk_s1 : Sh := ⟨[.pv (.sl (.pair (.int .i64) (.int .i64))), .dead, .dead, .dead, .dead, .pv (.sl (.pair (.int .i64) (.int .i64))), .pv (.int .i64), .pv (.int .i64), .dead, .dead, .dead, .dead, .dead, .dead, .dead, .dead, .dead, .dead, .dead, .dead, .dead, .dead, .dead, .dead, .dead, .dead, .dead, .dead, .dead, .dead, .dead, .dead, .dead, .dead, .dead, .dead, .dead, .dead, .dead, .dead, .dead, .dead, .dead, .dead, .dead, .dead, .dead], []⟩
def i_HitsOk_h : Hint := (.seq .no (.seq (.seq .no (.block (.loop i_HitsOk_s1 .no))) .no))
def i_HitsOk_m (N : Nat) (list : List (Int × Int)) : Option (Bool) :=
  (iter (fun (go : ((List (Int × Int)) × (List (Int × Int)) × Int × Int) → Option Bool) (g : (List (Int × Int)) × (List (Int × Int)) × Int × Int) => 
      match g with
      | (list2, t5, t6, t7) =>
      (bif (decide (t7 < t6)) then
        (Option.bind (idx t5 t7) fun (e : Int × Int) =>
          (Option.bind (i_within_m N e.1 1 9999) fun (r : Bool) =>
            (bif (!r) then
              (some false)
              else
              (bif (decide (e.2 < 1)) then
                (some false)
                else
                (Option.bind (cut list2 0 t7) fun (y : List (Int × Int)) =>
                  (Option.bind (i_hasDoc_m N y e.1) fun (r2 : Bool) =>
                    (bif r2 then
                      (some false)
                      else
                      (bif (decide ((0 : Int) < t7)) then
                        (if fits (t7 - 1) then (Option.bind (idx list2 (t7 - 1)) fun (e2 : Int × Int) =>
                            (Option.bind (i_hitOrder_m N e2.1 e2.2 e.1 e.2) fun (r3 : Int) =>
                              (bif (decide ((0 : Int) ≤ r3)) then
                                (some false)
                                else
                                (if fits (t7 + 1) then (go (list2, t5, t6, (t7 + 1))) else none)))) else none)
                        else
                        (if fits (t7 + 1) then (go (list2, t5, t6, (t7 + 1))) else none)))))))))
        else
        (some (decide ((list2.length : Int) ≤ 16))))) N (list, list, (list.length : Int), 0))
def i_HitsOk_M (N : Nat) : Model := ⟨i_HitsOk_arg, i_HitsOk_ret, fun a => i_HitsOk_m N a⟩
set_option maxRecDepth 1000000 in
theorem i_HitsOk_ok (N : Nat) : ModelOk Try.prog 32 (i_HitsOk_M N) :=
  modelOk_of (E := mkEnv [(36, i_within_M N), (55, i_hasDoc_M N), (56, i_hitOrder_M N)] [] []) (mkEnv_ok (fnsOk_cons (i_within_ok N) (fnsOk_cons (i_hasDoc_ok N) (fnsOk_cons (i_hitOrder_ok N) fnsOk_nil))) _ _) Try.func32 (by kernel_rfl) rfl N i_HitsOk_h (i_HitsOk_M N) (by kernel_rfl) (by kernel_rfl) (fun a => by kernel_rfl)
/-! (loop.example/fossick/impl.Cache).find -/
def i_Cache_find_arg : Sh := ⟨[.agg [.pv (.int .i64), .pv (.int .i64), .pv (.sl (.pair .str (.sl (.pair (.int .i64) (.int .i64)))))], .pv .str], []⟩
def i_Cache_find_ret : Sh := ⟨[.pv (.int .i64)], []⟩
def i_Cache_find_s1 : Sh := ⟨[.dead, .pv .str, .dead, .dead, .dead, .dead, .dead, .dead, .pv (.sl (.pair .str (.sl (.pair (.int .i64) (.int .i64))))), .pv (.int .i64), .pv (.int .i64), .dead, .dead, .dead, .dead, .dead, .dead, .dead, .dead, .dead, .dead], []⟩
def i_Cache_find_h : Hint := (.seq .no (.seq (.seq .no (.block (.loop i_Cache_find_s1 .no))) .no))
def i_Cache_find_m (N : Nat) (c : Int) (c2 : Int) (c3 : List ((List UInt8) × (List (Int × Int)))) (ask : List UInt8) : Option (Int) :=
  (iter (fun (go : ((List UInt8) × (List ((List UInt8) × (List (Int × Int)))) × Int × Int) → Option Int) (g : (List UInt8) × (List ((List UInt8) × (List (Int × Int)))) × Int × Int) => 
      match g with
      | (ask2, t8, t9, t10) =>
      (bif (decide (t10 < t9)) then
        (Option.bind (idx t8 t10) fun (e : (List UInt8) × (List (Int × Int))) =>
          (bif (decide (e.1 = ask2)) then
            (some t10)
            else
            (if fits (t10 + 1) then (go (ask2, t8, t9, (t10 + 1))) else none)))
        else
        (some (-1)))) N (ask, c3, (c3.length : Int), 0))
def i_Cache_find_M (N : Nat) : Model := ⟨i_Cache_find_arg, i_Cache_find_ret, fun a => i_Cache_find_m N a.1 a.2.1 a.2.2.1 a.2.2.2⟩
set_option maxRecDepth 1000000 in
theorem i_Cache_find_ok (N : Nat) : ModelOk Try.prog 42 (i_Cache_find_M N) :=
  modelOk_of (E := mkEnv [] [] []) (mkEnv_ok fnsOk_nil _ _) Try.func42 (by kernel_rfl) rfl N i_Cache_find_h (i_Cache_find_M N) (by kernel_rfl) (by kernel_rfl) (fun a => by kernel_rfl)
/-! loop.example/fossick/impl.CacheOk -/
def i_CacheOk_arg : Sh := ⟨[.agg [.pv (.int .i64), .pv (.int .i64), .pv (.sl (.pair .str (.sl (.pair (.int .i64) (.int .i64)))))]], []⟩
def i_CacheOk_ret : Sh := ⟨[.pv .bool], []⟩
def i_CacheOk_s1 : Sh := ⟨[.dead, .box 1 0, .dead, .dead, .dead, .dead, .dead, .dead, .dead, .dead, .dead, .dead, .dead, .dead, .dead, .dead, .dead, .dead, .dead, .dead, .dead, .dead, .dead, .dead, .pv (.sl (.pair .str (.sl (.pair (.int .i64) (.int .i64))))), .pv (.int .i64), .pv (.int .i64), .dead, .dead, .dead, .dead, .dead, .dead, .dead, .dead, .dead, .dead, .dead, .dead, .dead, .dead, .dead, .dead, .dead, .dead, .dead, .dead, .dead, .dead], [(1, false, [.pv (.int .i64), .pv (.int .i64), .pv (.sl (.pair .str (.sl (.pair (.int .i64) (.int .i64)))))])]⟩
def i_CacheOk_h : Hint := (.seq .no (.seq .no (.seq (.seq .no (.block (.loop i_CacheOk_s1 .no))) .no)))
def i_CacheOk_m (N : Nat) (c : Int) (c2 : Int) (c3 : List ((List UInt8) × (List (Int × Int)))) : Option (Bool) :=
  (Option.bind (i_within_m N c 1 5) fun (r : Bool) =>
    (bif (!r) then
      (some false)
      else
      (Option.bind (i_within_m N c2 0 999999999) fun (r2 : Bool) =>
        (bif (!r2) then
          (some false)
          else
          (bif (decide (c < (c3.length : Int))) then
            (some false)
            else
            (iter (fun (go : ((List ((List UInt8) × (List (Int × Int)))) × Int × Int × Int × Int × (List ((List UInt8) × (List (Int × Int))))) → Option Bool) (g : (List ((List UInt8) × (List (Int × Int)))) × Int × Int × Int × Int × (List ((List UInt8) × (List (Int × Int))))) => 
                match g with
                | (t24, t25, t26, c4, c5, c6) =>
                (bif (decide (t26 < t25)) then
                  (Option.bind (idx t24 t26) fun (e : (List UInt8) × (List (Int × Int))) =>
                    (bif (decide (e.1 = ([] : List UInt8))) then
                      (some false)
                      else
                      (Option.bind (i_HitsOk_m N e.2) fun (r3 : Bool) =>
                        (bif (!r3) then
                          (some false)
                          else
                          (Option.bind (i_Cache_find_m N c4 c5 c6 e.1) fun (r4 : Int) =>
                            (bif (!decide (r4 = t26)) then
                              (some false)
                              else
                              (if fits (t26 + 1) then (go (t24, t25, (t26 + 1), c4, c5, c6)) else none)))))))
                  else
                  (some true))) N (c3, (c3.length : Int), 0, c, c2, c3)))))))
def i_CacheOk_M (N : Nat) : Model := ⟨i_CacheOk_arg, i_CacheOk_ret, fun a => i_CacheOk_m N a.1 a.2.1 a.2.2⟩
set_option maxRecDepth 1000000 in
theorem i_CacheOk_ok (N : Nat) : ModelOk Try.prog 17 (i_CacheOk_M N) :=
  modelOk_of (E := mkEnv [(36, i_within_M N), (32, i_HitsOk_M N), (42, i_Cache_find_M N)] [] []) (mkEnv_ok (fnsOk_cons (i_within_ok N) (fnsOk_cons (i_HitsOk_ok N) (fnsOk_cons (i_Cache_find_ok N) fnsOk_nil))) _ _) Try.func17 (by kernel_rfl) rfl N i_CacheOk_h (i_CacheOk_M N) (by kernel_rfl) (by kernel_rfl) (fun a => by kernel_rfl)
/-! loop.example/fossick/laws.FnCacheNew -/
def l_FnCacheNew_arg : Sh := ⟨[.pv (.sl (.int .u8))], []⟩
def l_FnCacheNew_ret : Sh := ⟨[.pv .bool], []⟩
def l_FnCacheNew_h : Hint := .no
def l_FnCacheNew_m (N : Nat) (code : List Int) : Option (Bool) :=
  (bif (decide ((1048576 : Int) < (code.length : Int))) then
    (some true)
    else
    (Option.bind (s_DrawCacheNew_m N code) fun (r : Int) =>
      (Option.bind (i_CacheNew_m N r) fun (r2 : Int × Int × (List ((List UInt8) × (List (Int × Int))))) =>
        (Option.bind (s_CacheNew_m N r) fun (r3 : Int × Int) =>
          (Option.bind (l_foCache_m N r2.1 r2.2.1 r2.2.2 r3.1 r3.2 ([] : List ((List UInt8) × (List (Int × Int))))) fun (r4 : Bool) =>
            (bif (!r4) then
              (Option.bind (s_CacheNew_m N r) fun (r5 : Int × Int) =>
                (Option.bind (l_foCache_m N r2.1 r2.2.1 r2.2.2 r5.1 r5.2 ([] : List ((List UInt8) × (List (Int × Int))))) fun (r6 : Bool) =>
                  (some r6)))
              else
              (bif (decide (r2.1 = 0)) then
                (Option.bind (s_CacheNew_m N r) fun (r7 : Int × Int) =>
                  (Option.bind (l_foCache_m N r2.1 r2.2.1 r2.2.2 r7.1 r7.2 ([] : List ((List UInt8) × (List (Int × Int))))) fun (r8 : Bool) =>
                    (some r8)))
                else
                (Option.bind (i_CacheOk_m N r2.1 r2.2.1 r2.2.2) fun (r9 : Bool) =>
                  (bif r9 then
                    (some (decide ((r2.2.2.length : Int) = 0)))
                    else
                    (some false))))))))))
def l_FnCacheNew_M (N : Nat) : Model := ⟨l_FnCacheNew_arg, l_FnCacheNew_ret, fun a => l_FnCacheNew_m N a⟩
set_option maxRecDepth 1000000 in
theorem l_FnCacheNew_ok (N : Nat) : ModelOk Try.prog 4 (l_FnCacheNew_M N) :=
  modelOk_of (E := mkEnv [(15, s_DrawCacheNew_M N), (11, i_CacheNew_M N), (10, s_CacheNew_M N), (16, l_foCache_M N), (17, i_CacheOk_M N)] [] []) (mkEnv_ok (fnsOk_cons (s_DrawCacheNew_ok N) (fnsOk_cons (i_CacheNew_ok N) (fnsOk_cons (s_CacheNew_ok N) (fnsOk_cons (l_foCache_ok N) (fnsOk_cons (i_CacheOk_ok N) fnsOk_nil))))) _ _) Try.func4 (by kernel_rfl) rfl N l_FnCacheNew_h (l_FnCacheNew_M N) (by kernel_rfl) (by kernel_rfl) (fun a => by kernel_rfl)
/-! loop.example/fossick/laws.szHitS -/
def l_szHitS_arg : Sh := ⟨[.pv (.sl (.pair (.int .i64) (.int .i64))), .pv (.int .i64)], []⟩
def l_szHitS_ret : Sh := ⟨[.pv (.int .i64)], []⟩
def l_szHitS_h : Hint := .no
def l_szHitS_m (N : Nat) (a : List (Int × Int)) (left : Int) : Option (Int) :=
  (if fits (left - (a.length : Int)) then (bif (decide ((left - (a.length : Int)) < 0)) then
      (some (-1))
      else
      (some (left - (a.length : Int)))) else none)
def l_szHitS_M (N : Nat) : Model := ⟨l_szHitS_arg, l_szHitS_ret, fun a => l_szHitS_m N a.1 a.2⟩
set_option maxRecDepth 1000000 in
theorem l_szHitS_ok (N : Nat) : ModelOk Try.prog 33 (l_szHitS_M N) :=
  modelOk_of (E := mkEnv [] [] []) (mkEnv_ok fnsOk_nil _ _) Try.func33 (by kernel_rfl) rfl N l_szHitS_h (l_szHitS_M N) (by kernel_rfl) (by kernel_rfl) (fun a => by kernel_rfl)
/-! loop.example/fossick/laws.szItem -/
def l_szItem_arg : Sh := ⟨[.agg [.pv .str, .pv (.sl (.pair (.int .i64) (.int .i64)))], .pv (.int .i64)], []⟩
def l_szItem_ret : Sh := ⟨[.pv (.int .i64)], []⟩
def l_szItem_h : Hint := .no
def l_szItem_m (N : Nat) (a : List UInt8) (a2 : List (Int × Int)) (left : Int) : Option (Int) :=
  (if fits (left - (a.length : Int)) then (bif (decide ((left - (a.length : Int)) < 0)) then
      (some (-1))
      else
      (Option.bind (l_szHitS_m N a2 (left - (a.length : Int))) fun (r : Int) =>
        (bif (decide (r < 0)) then
          (some (-1))
          else
          (some r)))) else none)
def l_szItem_M (N : Nat) : Model := ⟨l_szItem_arg, l_szItem_ret, fun a => l_szItem_m N a.1 a.2.1 a.2.2⟩
set_option maxRecDepth 1000000 in
theorem l_szItem_ok (N : Nat) : ModelOk Try.prog 60 (l_szItem_M N) :=
  modelOk_of (E := mkEnv [(33, l_szHitS_M N)] [] []) (mkEnv_ok (fnsOk_cons (l_szHitS_ok N) fnsOk_nil) _ _) Try.func60 (by kernel_rfl) rfl N l_szItem_h (l_szItem_M N) (by kernel_rfl) (by kernel_rfl) (fun a => by kernel_rfl)
/-! loop.example/fossick/laws.szItemS -/
def l_szItemS_arg : Sh := ⟨[.pv (.sl (.pair .str (.sl (.pair (.int .i64) (.int .i64))))), .pv (.int .i64)], []⟩
def l_szItemS_ret : Sh := ⟨[.pv (.int .i64)], []⟩
def l_szItemS_s1 : Sh := ⟨[.pv (.sl (.pair .str (.sl (.pair (.int .i64) (.int .i64))))), .pv (.int .i64), .dead, .dead, .dead, .pv (.int .i64), .dead, .dead, .dead, .dead, .dead, .dead, .dead, .dead, .dead, .dead, .dead, .dead, .dead, .dead, .dead, .dead, .dead, .dead, .dead, .dead, .dead], []⟩
def l_szItemS_h : Hint := (.seq .no (.seq .no (.seq .no (.seq (.seq .no (.block (.loop l_szItemS_s1 .no))) .no))))
def l_szItemS_m (N : Nat) (a : List ((List UInt8) × (List (Int × Int)))) (left : Int) : Option (Int) :=
  (if fits (left - (a.length : Int)) then (bif (decide ((left - (a.length : Int)) < 0)) then
      (some (-1))
      else
      (iter (fun (go : ((List ((List UInt8) × (List (Int × Int)))) × Int × Int) → Option Int) (g : (List ((List UInt8) × (List (Int × Int)))) × Int × Int) => 
          match g with
          | (a2, left2, i) =>
          (bif (decide (i < (a2.length : Int))) then
            (Option.bind (idx a2 i) fun (e : (List UInt8) × (List (Int × Int))) =>
              (Option.bind (l_szItem_m N e.1 e.2 left2) fun (r : Int) =>
                (bif (decide (r < 0)) then
                  (some (-1))
                  else
                  (if fits (i + 1) then (go (a2, r, (i + 1))) else none))))
            else
            (some left2))) N (a, (left - (a.length : Int)), 0))) else none)
def l_szItemS_M (N : Nat) : Model := ⟨l_szItemS_arg, l_szItemS_ret, fun a => l_szItemS_m N a.1 a.2⟩
set_option maxRecDepth 1000000 in
theorem l_szItemS_ok (N : Nat) : ModelOk Try.prog 43 (l_szItemS_M N) :=
  modelOk_of (E := mkEnv [(60, l_szItem_M N)] [] []) (mkEnv_ok (fnsOk_cons (l_szItem_ok N) fnsOk_nil) _ _) Try.func43 (by kernel_rfl) rfl N l_szItemS_h (l_szItemS_M N) (by kernel_rfl) (by kernel_rfl) (fun a => by kernel_rfl)
/-! loop.example/fossick/laws.szCache -/
def l_szCache_arg : Sh := ⟨[.agg [.pv (.int .i64), .pv (.int .i64), .pv (.sl (.pair .str (.sl (.pair (.int .i64) (.int .i64)))))], .pv (.int .i64)], []⟩
def l_szCache_ret : Sh := ⟨[.pv (.int .i64)], []⟩
def l_szCache_h : Hint := .no
def l_szCache_m (N : Nat) (a : Int) (a2 : Int) (a3 : List ((List UInt8) × (List (Int × Int)))) (left : Int) : Option (Int) :=
  (Option.bind (l_szItemS_m N a3 left) fun (r : Int) =>
    (bif (decide (r < 0)) then
      (some (-1))
      else
      (some r)))
def l_szCache_M (N : Nat) : Model := ⟨l_szCache_arg, l_szCache_ret, fun a => l_szCache_m N a.1 a.2.1 a.2.2.1 a.2.2.2⟩
set_option maxRecDepth 1000000 in
theorem l_szCache_ok (N : Nat) : ModelOk Try.prog 18 (l_szCache_M N) :=
  modelOk_of (E := mkEnv [(43, l_szItemS_M N)] [] []) (mkEnv_ok (fnsOk_cons (l_szItemS_ok N) fnsOk_nil) _ _) Try.func18 (by kernel_rfl) rfl N l_szCache_h (l_szCache_M N) (by kernel_rfl) (by kernel_rfl) (fun a => by kernel_rfl)
/-! loop.example/fossick/laws.toHit -/
def l_toHit_arg : Sh := ⟨[.agg [.pv (.int .i64), .pv (.int .i64)]], []⟩
def l_toHit_ret : Sh := ⟨[.agg [.pv (.int .i64), .pv (.int .i64)]], []⟩
def l_toHit_h : Hint := .no
def l_toHit_m (N : Nat) (a : Int) (a2 : Int) : Option (Int × Int) :=
  (some (a, a2))
def l_toHit_M (N : Nat) : Model := ⟨l_toHit_arg, l_toHit_ret, fun a => l_toHit_m N a.1 a.2⟩
set_option maxRecDepth 1000000 in
theorem l_toHit_ok (N : Nat) : ModelOk Try.prog 57 (l_toHit_M N) :=
  modelOk_of (E := mkEnv [] [] []) (mkEnv_ok fnsOk_nil _ _) Try.func57 (by kernel_rfl) rfl N l_toHit_h (l_toHit_M N) (by kernel_rfl) (by kernel_rfl) (fun a => by kernel_rfl)
/-! loop.example/fossick/laws.toHitS -/
def l_toHitS_arg : Sh := ⟨[.pv (.sl (.pair (.int .i64) (.int .i64)))], []⟩
def l_toHitS_ret : Sh := ⟨[.own 1 (.pair (.int .i64) (.int .i64)) 78 true], []⟩
def l_toHitS_s1 : Sh := ⟨[.pv (.sl (.pair (.int .i64) (.int .i64))), .dead, .dead, .mtk 600003 (.pair (.int .i64) (.int .i64)) 78 true, .pv (.int .i64), .dead, .dead, .dead, .dead, .dead, .dead, .dead, .dead, .dead, .dead, .dead, .dead, .dead, .dead, .dead, .dead, .dead, .dead], []⟩
def l_toHitS_h : Hint := (.seq .no (.seq .no (.seq (.seq .no (.block (.loop l_toHitS_s1 .no))) .no)))
def l_toHitS_m (N : Nat) (a : List (Int × Int)) : Option ((List (Int × Int))) :=
  (if (a.length : Int) = (a.length : Int) ∧ 0 ≤ (a.length : Int) ∧ (a.length : Int) * 16 ≤ 140737488355328 ∧ (a.length : Int) ≤ 140737488355328 then
    (iter (fun (go : ((List (Int × Int)) × (List (Int × Int)) × Int) → Option ((List (Int × Int)))) (g : (List (Int × Int)) × (List (Int × Int)) × Int) => 
        match g with
        | (a2, out, i) =>
        (bif (decide (i < (a2.length : Int))) then
          (Option.bind (idx a2 i) fun (e : Int × Int) =>
            (Option.bind (l_toHit_m N e.1 e.2) fun (r : Int × Int) =>
              (if 0 ≤ i ∧ i < (out.length : Int) then
                (Option.bind (out[i.toNat]?) fun (e2 : Int × Int) =>
                  (if fits (i + 1) then (go (a2, (out.set i.toNat r), (i + 1))) else none))
                else none)))
          else
          (some out))) N (a, (List.replicate (a.length : Int).toNat (0, 0)), 0))
    else none)
def l_toHitS_M (N : Nat) : Model := ⟨l_toHitS_arg, l_toHitS_ret, fun a => l_toHitS_m N a⟩
set_option maxRecDepth 1000000 in
theorem l_toHitS_ok (N : Nat) : ModelOk Try.prog 34 (l_toHitS_M N) :=
  modelOk_of (E := mkEnv [(57, l_toHit_M N)] [7] [] [20]) (mkEnv_ok (fnsOk_cons (l_toHit_ok N) fnsOk_nil) _ _ _) Try.func34 (by kernel_rfl) rfl N l_toHitS_h (l_toHitS_M N) (by kernel_rfl) (by kernel_rfl) (fun a => by kernel_rfl)
/-! loop.example/fossick/laws.toItem -/
def l_toItem_arg : Sh := ⟨[.agg [.pv .str, .pv (.sl (.pair (.int .i64) (.int .i64)))]], []⟩
def l_toItem_ret : Sh := ⟨[.agg [.pv .str, .own 1 (.pair (.int .i64) (.int .i64)) 78 true]], []⟩
def l_toItem_h : Hint := .no
def l_toItem_m (N : Nat) (a : List UInt8) (a2 : List (Int × Int)) : Option ((List UInt8) × (List (Int × Int))) :=
  (Option.bind (l_toHitS_m N a2) fun (r : (List (Int × Int))) =>
    (some (a, r)))
def l_toItem_M (N : Nat) : Model := ⟨l_toItem_arg, l_toItem_ret, fun a => l_toItem_m N a.1 a.2⟩
set_option maxRecDepth 1000000 in
theorem l_toItem_ok (N : Nat) : ModelOk Try.prog 61 (l_toItem_M N) :=
  modelOk_of (E := mkEnv [(34, l_toHitS_M N)] [] [] [9]) (mkEnv_ok (fnsOk_cons (l_toHitS_ok N) fnsOk_nil) _ _ _) Try.func61 (by kernel_rfl) rfl N l_toItem_h (l_toItem_M N) (by kernel_rfl) (by kernel_rfl) (fun a => by kernel_rfl)
/-! loop.example/fossick/laws.toItemS -/
def l_toItemS_arg : Sh := ⟨[.pv (.sl (.pair .str (.sl (.pair (.int .i64) (.int .i64)))))], []⟩
def l_toItemS_ret : Sh := ⟨[.own 1 (.pair .str (.sl (.pair (.int .i64) (.int .i64)))) 46 true], []⟩
def l_toItemS_s1 : Sh := ⟨[.pv (.sl (.pair .str (.sl (.pair (.int .i64) (.int .i64))))), .dead, .dead, .tre 600003 (.pair .str (.sl (.pair (.int .i64) (.int .i64)))) 46, .pv (.int .i64), .dead, .dead, .dead, .dead, .dead, .dead, .dead, .dead, .dead, .dead, .dead, .dead, .dead, .dead, .dead, .dead, .dead, .dead], []⟩
def l_toItemS_h : Hint := (.seq .no (.seq .no (.seq (.seq .no (.block (.loop l_toItemS_s1 .no))) .no)))
def l_toItemS_m (N : Nat) (a : List ((List UInt8) × (List (Int × Int)))) : Option ((List ((List UInt8) × (List (Int × Int))))) :=
  (if (a.length : Int) = (a.length : Int) ∧ 0 ≤ (a.length : Int) ∧ (a.length : Int) * 40 ≤ 140737488355328 ∧ (a.length : Int) ≤ 140737488355328 then
    (iter (fun (go : ((List ((List UInt8) × (List (Int × Int)))) × (List ((List UInt8) × (List (Int × Int)))) × Int) → Option ((List ((List UInt8) × (List (Int × Int)))))) (g : (List ((List UInt8) × (List (Int × Int)))) × (List ((List UInt8) × (List (Int × Int)))) × Int) => 
        match g with
        | (a2, out, i) =>
        (bif (decide (i < (a2.length : Int))) then
          (Option.bind (idx a2 i) fun (e : (List UInt8) × (List (Int × Int))) =>
            (Option.bind (l_toItem_m N e.1 e.2) fun (r : (List UInt8) × (List (Int × Int))) =>
              (if 0 ≤ i ∧ i < (out.length : Int) then
                (Option.bind (out[i.toNat]?) fun (e2 : (List UInt8) × (List (Int × Int))) =>
                  (if fits (i + 1) then (go (a2, (out.set i.toNat r), (i + 1))) else none))
                else none)))
          else
          (some out))) N (a, (List.replicate (a.length : Int).toNat (([] : List UInt8), ([] : List (Int × Int)))), 0))
    else none)
def l_toItemS_M (N : Nat) : Model := ⟨l_toItemS_arg, l_toItemS_ret, fun a => l_toItemS_m N a⟩
set_option maxRecDepth 1000000 in
theorem l_toItemS_ok (N : Nat) : ModelOk Try.prog 45 (l_toItemS_M N) :=
  modelOk_of (E := mkEnv [(61, l_toItem_M N)] [7] [] [20]) (mkEnv_ok (fnsOk_cons (l_toItem_ok N) fnsOk_nil) _ _ _) Try.func45 (by kernel_rfl) rfl N l_toItemS_h (l_toItemS_M N) (by kernel_rfl) (by kernel_rfl) (fun a => by kernel_rfl)
/-! loop.example/fossick/laws.toCache -/
def l_toCache_arg : Sh := ⟨[.agg [.pv (.int .i64), .pv (.int .i64), .pv (.sl (.pair .str (.sl (.pair (.int .i64) (.int .i64)))))]], []⟩
def l_toCache_ret : Sh := ⟨[.agg [.pv (.int .i64), .pv (.int .i64), .own 1 (.pair .str (.sl (.pair (.int .i64) (.int .i64)))) 46 true]], []⟩
def l_toCache_h : Hint := .no
def l_toCache_m (N : Nat) (a : Int) (a2 : Int) (a3 : List ((List UInt8) × (List (Int × Int)))) : Option (Int × Int × (List ((List UInt8) × (List (Int × Int))))) :=
  (Option.bind (l_toItemS_m N a3) fun (r : (List ((List UInt8) × (List (Int × Int))))) =>
    (some (a, a2, r)))
def l_toCache_M (N : Nat) : Model := ⟨l_toCache_arg, l_toCache_ret, fun a => l_toCache_m N a.1 a.2.1 a.2.2⟩
set_option maxRecDepth 1000000 in
theorem l_toCache_ok (N : Nat) : ModelOk Try.prog 20 (l_toCache_M N) :=
  modelOk_of (E := mkEnv [(45, l_toItemS_M N)] [] [] [12]) (mkEnv_ok (fnsOk_cons (l_toItemS_ok N) fnsOk_nil) _ _ _) Try.func20 (by kernel_rfl) rfl N l_toCache_h (l_toCache_M N) (by kernel_rfl) (by kernel_rfl) (fun a => by kernel_rfl)
/-! loop.example/fossick/spec.l13Less -/
def s_l13Less_arg : Sh := ⟨[.agg [.pv (.int .i64), .pv (.int .i64)], .agg [.pv (.int .i64), .pv (.int .i64)]], []⟩
def s_l13Less_ret : Sh := ⟨[.pv .bool], []⟩
def s_l13Less_h : Hint := .no
def s_l13Less_m (N : Nat) (a : Int) (a2 : Int) (b : Int) (b2 : Int) : Option (Bool) :=
  (bif (decide (b2 < a2)) then
    (some true)
    else
    (bif (decide (a2 = b2)) then
      (some (decide (a < b)))
      else
      (some false)))
def s_l13Less_M (N : Nat) : Model := ⟨s_l13Less_arg, s_l13Less_ret, fun a => s_l13Less_m N a.1 a.2.1 a.2.2.1 a.2.2.2⟩
set_option maxRecDepth 1000000 in
theorem s_l13Less_ok (N : Nat) : ModelOk Try.prog 67 (s_l13Less_M N) :=
  modelOk_of (E := mkEnv [] [] []) (mkEnv_ok fnsOk_nil _ _) Try.func67 (by kernel_rfl) rfl N s_l13Less_h (s_l13Less_M N) (by kernel_rfl) (by kernel_rfl) (fun a => by kernel_rfl)
/-! loop.example/fossick/spec.l13Ok -/
def s_l13Ok_arg : Sh := ⟨[.pv (.sl (.pair (.int .i64) (.int .i64)))], []⟩
def s_l13Ok_ret : Sh := ⟨[.pv .bool], []⟩
def s_l13Ok_s1 : Sh := ⟨[.pv (.sl (.pair (.int .i64) (.int .i64))), .dead, .dead, .pv (.int .i64), .dead, .dead, .dead, .dead, .dead, .dead, .dead, .dead, .dead, .dead, .dead, .dead, .dead, .dead, .dead, .dead, .dead, .dead, .dead, .dead, .dead, .dead, .dead, .dead, .dead, .dead, .dead, .dead, .dead, .dead, .dead, .dead, .dead, .dead, .dead, .dead, .dead, .dead, .dead, .dead, .dead, .dead, .dead, .dead, .dead, .dead, .dead, .dead, .dead, .dead, .dead, .dead, .dead, .dead, .dead, .dead, .dead, .dead], []⟩
def s_l13Ok_s2 : Sh := ⟨[.pv (.sl (.pair (.int .i64) (.int .i64))), .dead, .dead, .pv (.int .i64), .pv (.int .i64), .dead, .dead, .dead, .dead, .dead, .dead, .dead, .dead, .dead, .dead, .dead, .dead, .dead, .dead, .dead, .dead, .dead, .dead, .dead, .pv .bool, .dead, .dead, .dead, .dead, .dead, .dead, .dead, .dead, .dead, .dead, .dead, .dead, .dead, .dead, .dead, .dead, .pv .bool, .dead, .dead, .dead, .dead, .dead, .dead, .dead, .dead, .dead, .dead, .dead, .dead, .dead, .dead, .dead, .dead, .dead, .dead, .dead, .dead], []⟩
def s_l13Ok_h : Hint := (.seq .no (.seq (.seq .no (.block (.loop s_l13Ok_s1 (.seq .no (.seq (.block (.seq .no (.seq .no (.block (.loop s_l13Ok_s2 .no))))) .no))))) .no))
def s_l13Ok_m (N : Nat) (list : List (Int × Int)) : Option (Bool) :=
  (iter (fun (go : ((List (Int × Int)) × Int) → Option Bool) (g : (List (Int × Int)) × Int) => 
      match g with
      | (list2, i) =>
      (bif (decide (i < (list2.length : Int))) then
        (Option.bind (idx list2 i) fun (e : Int × Int) =>
          (Option.bind (s_l1In_m N e.1 1 9999) fun (r : Bool) =>
            (bif (!r) then
              (some false)
              else
              (Option.bind (idx list2 i) fun (e2 : Int × Int) =>
                (bif (decide (e2.2 < 1)) then
                  (some false)
                  else
                  (bif (decide ((0 : Int) < i)) then
                    (if fits (i - 1) then (Option.bind (idx list2 (i - 1)) fun (e3 : Int × Int) =>
                        (Option.bind (idx list2 i) fun (e4 : Int × Int) =>
                          (Option.bind (s_l13Less_m N e3.1 e3.2 e4.1 e4.2) fun (r2 : Bool) =>
                            (bif (!r2) then
                              (some false)
                              else
                              (iter (fun (go2 : ((List (Int × Int)) × Int × Int × Bool × Bool) → Option Bool) (g : (List (Int × Int)) × Int × Int × Bool × Bool) => 
                                  match g with
                                  | (list3, i2, k, t24, t41) =>
                                  (bif (decide (k < i2)) then
                                    (Option.bind (idx list3 k) fun (e5 : Int × Int) =>
                                      (Option.bind (idx list3 i2) fun (e6 : Int × Int) =>
                                        (bif (decide (e5.1 = e6.1)) then
                                          (some false)
                                          else
                                          (if fits (k + 1) then (go2 (list3, i2, (k + 1), t24, t41)) else none))))
                                    else
                                    (if fits (i2 + 1) then (go (list3, (i2 + 1))) else none))) N (list2, i, 0, (decide (e2.2 < 1)), (!r2))))))) else none)
                    else
                    (iter (fun (go3 : ((List (Int × Int)) × Int × Int × Bool × Bool) → Option Bool) (g : (List (Int × Int)) × Int × Int × Bool × Bool) => 
                        match g with
                        | (list4, i3, k2, t242, t412) =>
                        (bif (decide (k2 < i3)) then
                          (Option.bind (idx list4 k2) fun (e7 : Int × Int) =>
                            (Option.bind (idx list4 i3) fun (e8 : Int × Int) =>
                              (bif (decide (e7.1 = e8.1)) then
                                (some false)
                                else
                                (if fits (k2 + 1) then (go3 (list4, i3, (k2 + 1), t242, t412)) else none))))
                          else
                          (if fits (i3 + 1) then (go (list4, (i3 + 1))) else none))) N (list2, i, 0, (decide (e2.2 < 1)), false))))))))
        else
        (some (decide ((list2.length : Int) ≤ 16))))) N (list, 0))
def s_l13Ok_M (N : Nat) : Model := ⟨s_l13Ok_arg, s_l13Ok_ret, fun a => s_l13Ok_m N a⟩
set_option maxRecDepth 1000000 in
theorem s_l13Ok_ok (N : Nat) : ModelOk Try.prog 54 (s_l13Ok_M N) :=
  modelOk_of (E := mkEnv [(35, s_l1In_M N), (67, s_l13Less_M N)] [] []) (mkEnv_ok (fnsOk_cons (s_l1In_ok N) (fnsOk_cons (s_l13Less_ok N) fnsOk_nil)) _ _) Try.func54 (by kernel_rfl) rfl N s_l13Ok_h (s_l13Ok_M N) (by kernel_rfl) (by kernel_rfl) (fun a => by kernel_rfl)
/-! loop.example/fossick/spec.l24Ok -/
def s_l24Ok_arg : Sh := ⟨[.agg [.pv (.int .i64), .pv (.int .i64), .pv (.sl (.pair .str (.sl (.pair (.int .i64) (.int .i64)))))]], []⟩
def s_l24Ok_ret : Sh := ⟨[.pv .bool], []⟩
def s_l24Ok_s1 : Sh := ⟨[.dead, .box 1 0, .dead, .pv (.int .i64), .dead, .dead, .dead, .dead, .dead, .dead, .dead, .dead, .dead, .dead, .dead, .dead, .dead, .dead, .dead, .dead, .dead, .dead, .dead, .dead, .dead, .dead, .dead, .dead, .dead, .dead, .dead, .dead, .dead, .dead, .dead, .dead, .dead, .dead, .dead, .dead, .dead, .dead, .dead, .dead, .dead, .dead, .dead, .dead, .dead, .dead, .dead, .dead, .dead, .dead, .dead, .dead, .dead, .dead, .dead, .dead, .dead, .dead, .dead], [(1, false, [.pv (.int .i64), .pv (.int .i64), .pv (.sl (.pair .str (.sl (.pair (.int .i64) (.int .i64)))))])]⟩
def s_l24Ok_s2 : Sh := ⟨[.dead, .box 1 0, .dead, .pv (.int .i64), .pv (.int .i64), .dead, .dead, .dead, .dead, .dead, .dead, .dead, .dead, .dead, .dead, .dead, .dead, .dead, .dead, .dead, .dead, .dead, .dead, .dead, .dead, .dead, .dead, .pv .bool, .dead, .dead, .dead, .dead, .dead, .dead, .dead, .dead, .dead, .dead, .dead, .dead, .dead, .dead, .dead, .dead, .dead, .dead, .dead, .dead, .dead, .dead, .dead, .dead, .dead, .dead, .dead, .dead, .dead, .dead, .dead, .dead, .dead, .dead, .dead], [(1, false, [.pv (.int .i64), .pv (.int .i64), .pv (.sl (.pair .str (.sl (.pair (.int .i64) (.int .i64)))))])]⟩
def s_l24Ok_h : Hint := (.seq .no (.seq (.seq .no (.block (.loop s_l24Ok_s1 (.seq .no (.seq (.block (.seq .no (.seq .no (.block (.loop s_l24Ok_s2 .no))))) .no))))) .no))
def s_l24Ok_m (N : Nat) (c : Int) (c2 : Int) (c3 : List ((List UInt8) × (List (Int × Int)))) : Option (Bool) :=
  (iter (fun (go : (Int × Int × Int × (List ((List UInt8) × (List (Int × Int))))) → Option Bool) (g : Int × Int × Int × (List ((List UInt8) × (List (Int × Int))))) => 
      match g with
      | (i, c4, c5, c6) =>
      (bif (decide (i < (c6.length : Int))) then
        (Option.bind (idx c6 i) fun (e : (List UInt8) × (List (Int × Int))) =>
          (bif (decide (e.1 = ([] : List UInt8))) then
            (some false)
            else
            (Option.bind (idx c6 i) fun (e2 : (List UInt8) × (List (Int × Int))) =>
              (Option.bind (s_l13Ok_m N e2.2) fun (r : Bool) =>
                (bif (!r) then
                  (some false)
                  else
                  (iter (fun (go2 : (Int × Int × Bool × Int × Int × (List ((List UInt8) × (List (Int × Int))))) → Option Bool) (g : Int × Int × Bool × Int × Int × (List ((List UInt8) × (List (Int × Int))))) => 
                      match g with
                      | (i2, k, t27, c7, c8, c9) =>
                      (bif (decide (k < i2)) then
                        (Option.bind (idx c9 k) fun (e3 : (List UInt8) × (List (Int × Int))) =>
                          (Option.bind (idx c9 i2) fun (e4 : (List UInt8) × (List (Int × Int))) =>
                            (bif (decide (e3.1 = e4.1)) then
                              (some false)
                              else
                              (if fits (k + 1) then (go2 (i2, (k + 1), t27, c7, c8, c9)) else none))))
                        else
                        (if fits (i2 + 1) then (go ((i2 + 1), c7, c8, c9)) else none))) N (i, 0, (!r), c4, c5, c6)))))))
        else
        (Option.bind (s_l1In_m N c4 1 5) fun (r2 : Bool) =>
          (bif r2 then
            (bif (decide ((c6.length : Int) ≤ c4)) then
              (Option.bind (s_l1In_m N c5 0 999999999) fun (r3 : Bool) =>
                (some r3))
              else
              (some false))
            else
            (some false))))) N (0, c, c2, c3))
def s_l24Ok_M (N : Nat) : Model := ⟨s_l24Ok_arg, s_l24Ok_ret, fun a => s_l24Ok_m N a.1 a.2.1 a.2.2⟩
set_option maxRecDepth 1000000 in
theorem s_l24Ok_ok (N : Nat) : ModelOk Try.prog 44 (s_l24Ok_M N) :=
  modelOk_of (E := mkEnv [(54, s_l13Ok_M N), (35, s_l1In_M N)] [] []) (mkEnv_ok (fnsOk_cons (s_l13Ok_ok N) (fnsOk_cons (s_l1In_ok N) fnsOk_nil)) _ _) Try.func44 (by kernel_rfl) rfl N s_l24Ok_h (s_l24Ok_M N) (by kernel_rfl) (by kernel_rfl) (fun a => by kernel_rfl)
/-! loop.example/fossick/spec.CacheOk -/
def s_CacheOk_arg : Sh := ⟨[.agg [.pv (.int .i64), .pv (.int .i64), .pv (.sl (.pair .str (.sl (.pair (.int .i64) (.int .i64)))))]], []⟩
def s_CacheOk_ret : Sh := ⟨[.pv .bool], []⟩
def s_CacheOk_h : Hint := .no
def s_CacheOk_m (N : Nat) (c : Int) (c2 : Int) (c3 : List ((List UInt8) × (List (Int × Int)))) : Option (Bool) :=
  (Option.bind (s_l24Ok_m N c c2 c3) fun (r : Bool) =>
    (some r))
def s_CacheOk_M (N : Nat) : Model := ⟨s_CacheOk_arg, s_CacheOk_ret, fun a => s_CacheOk_m N a.1 a.2.1 a.2.2⟩
set_option maxRecDepth 1000000 in
theorem s_CacheOk_ok (N : Nat) : ModelOk Try.prog 19 (s_CacheOk_M N) :=
  modelOk_of (E := mkEnv [(44, s_l24Ok_M N)] [] []) (mkEnv_ok (fnsOk_cons (s_l24Ok_ok N) fnsOk_nil) _ _) Try.func19 (by kernel_rfl) rfl N s_CacheOk_h (s_CacheOk_M N) (by kernel_rfl) (by kernel_rfl) (fun a => by kernel_rfl)
/-! loop.example/fossick/laws.FnExactCacheOk -/
def l_FnExactCacheOk_arg : Sh := ⟨[.agg [.pv (.int .i64), .pv (.int .i64), .pv (.sl (.pair .str (.sl (.pair (.int .i64) (.int .i64)))))]], []⟩
def l_FnExactCacheOk_ret : Sh := ⟨[.pv .bool], []⟩
def l_FnExactCacheOk_h : Hint := .no
def l_FnExactCacheOk_m (N : Nat) (aC : Int) (aC2 : Int) (aC3 : List ((List UInt8) × (List (Int × Int)))) : Option (Bool) :=
  (Option.bind (l_szCache_m N aC aC2 aC3 1048576) fun (r : Int) =>
    (bif (decide (r < 0)) then
      (some true)
      else
      (Option.bind (l_toCache_m N aC aC2 aC3) fun (r2 : Int × Int × (List ((List UInt8) × (List (Int × Int))))) =>
        (Option.bind (s_CacheOk_m N r2.1 r2.2.1 r2.2.2) fun (r3 : Bool) =>
          (Option.bind (l_toCache_m N aC aC2 aC3) fun (r4 : Int × Int × (List ((List UInt8) × (List (Int × Int))))) =>
            (Option.bind (i_CacheOk_m N r4.1 r4.2.1 r4.2.2) fun (r5 : Bool) =>
              (bif (!(r5 == r3)) then
                (some false)
                else
                (Option.bind (l_toCache_m N aC aC2 aC3) fun (r6 : Int × Int × (List ((List UInt8) × (List (Int × Int))))) =>
                  (Option.bind (l_eqCache_m N r4.1 r4.2.1 r4.2.2 r6.1 r6.2.1 r6.2.2) fun (r7 : Bool) =>
                    (bif (!r7) then
                      (some false)
                      else
                      (some true)))))))))))
def l_FnExactCacheOk_M (N : Nat) : Model := ⟨l_FnExactCacheOk_arg, l_FnExactCacheOk_ret, fun a => l_FnExactCacheOk_m N a.1 a.2.1 a.2.2⟩
set_option maxRecDepth 1000000 in
theorem l_FnExactCacheOk_ok (N : Nat) : ModelOk Try.prog 5 (l_FnExactCacheOk_M N) :=
  modelOk_of (E := mkEnv [(18, l_szCache_M N), (20, l_toCache_M N), (19, s_CacheOk_M N), (17, i_CacheOk_M N), (12, l_eqCache_M N)] [] [] [13, 16, 18, 24, 25]) (mkEnv_ok (fnsOk_cons (l_szCache_ok N) (fnsOk_cons (l_toCache_ok N) (fnsOk_cons (s_CacheOk_ok N) (fnsOk_cons (i_CacheOk_ok N) (fnsOk_cons (l_eqCache_ok N) fnsOk_nil))))) _ _ _) Try.func5 (by kernel_rfl) rfl N l_FnExactCacheOk_h (l_FnExactCacheOk_M N) (by kernel_rfl) (by kernel_rfl) (fun a => by kernel_rfl)
/-! (*loop.example/fossick/spec.l30Rd).of -/
def s_l30Rd_of_arg : Sh := ⟨[.box 900000 0, .pv (.sl .str)], [(900000, false, [.pv (.sl (.int .u8)), .pv (.int .i64)])]⟩
def s_l30Rd_of_ret : Sh := ⟨[.pv .str], [(900000, false, [.pv (.sl (.int .u8)), .pv (.int .i64)])]⟩
def s_l30Rd_of_h : Hint := .no
def s_l30Rd_of_m (N : Nat) (list : List (List UInt8)) (b : List Int) (b2 : Int) : Option ((List UInt8) × (List Int) × Int) :=
  (Option.bind (s_l30Rd_pick_m N (list.length : Int) b b2) fun (r : Int × (List Int) × Int) =>
    (Option.bind (idx list r.1) fun (e : List UInt8) =>
      (some (e, r.2.1, r.2.2))))
def s_l30Rd_of_M (N : Nat) : Model := ⟨s_l30Rd_of_arg, s_l30Rd_of_ret, fun a => s_l30Rd_of_m N a.1 a.2.1 a.2.2⟩
set_option maxRecDepth 1000000 in
theorem s_l30Rd_of_ok (N : Nat) : ModelOk Try.prog 65 (s_l30Rd_of_M N) :=
  modelOk_of (E := mkEnv [(47, s_l30Rd_pick_M N)] [] [900000]) (mkEnv_ok (fnsOk_cons (s_l30Rd_pick_ok N) fnsOk_nil) _ _) Try.func65 (by kernel_rfl) rfl N s_l30Rd_of_h (s_l30Rd_of_M N) (by kernel_rfl) (by kernel_rfl) (fun a => by kernel_rfl)
/-! loop.example/fossick/spec.l30Known -/
def s_l30Known_arg : Sh := ⟨[], []⟩
def s_l30Known_ret : Sh := ⟨[.own 1 .str 9 true], []⟩
def s_l30Known_h : Hint := .no
def s_l30Known_m (N : Nat) : Option ((List (List UInt8))) :=
  (some ([([99, 97, 116] : List UInt8), ([99, 97, 116, 115] : List UInt8), ([100, 111, 103] : List UInt8), ([100, 111, 103, 115] : List UInt8), ([114, 117, 110] : List UInt8), ([114, 117, 110, 110, 105, 110, 103] : List UInt8), ([116, 104, 101] : List UInt8), ([114, 101, 100] : List UInt8), ([98, 105, 103] : List UInt8), ([110, 101, 119] : List UInt8), ([121, 111, 114, 107] : List UInt8), ([110, 121] : List UInt8), ([102, 111, 120] : List UInt8)] : List (List UInt8)))
def s_l30Known_M (N : Nat) : Model := ⟨s_l30Known_arg, s_l30Known_ret, fun a => s_l30Known_m N ⟩
set_option maxRecDepth 1000000 in
theorem s_l30Known_ok (N : Nat) : ModelOk Try.prog 66 (s_l30Known_M N) :=
  modelOk_of (E := mkEnv [] [] []) (mkEnv_ok fnsOk_nil _ _) Try.func66 (by kernel_rfl) rfl N s_l30Known_h (s_l30Known_M N) (by kernel_rfl) (by kernel_rfl) (fun a => by kernel_rfl)
/-! loop.example/fossick/spec.l30Leaf -/
def s_l30Leaf_arg : Sh := ⟨[.box 900000 0], [(900000, false, [.pv (.sl (.int .u8)), .pv (.int .i64)])]⟩
def s_l30Leaf_ret : Sh := ⟨[.agg [.pv (.int .i64), .pv .str, .own 1 .str 9 true, .pv (.int .i64), .pv (.int .i64), .nils]], [(900000, false, [.pv (.sl (.int .u8)), .pv (.int .i64)])]⟩
def s_l30Leaf_h : Hint := .no
def s_l30Leaf_m (N : Nat) (b : List Int) (b2 : Int) : Option (Int × (List UInt8) × (List (List UInt8)) × Int × Int × (List Int) × Int) :=
  (Option.bind (s_l30Rd_of_m N ([([98, 111, 100, 121] : List UInt8), ([98, 111, 100, 121] : List UInt8), ([116, 105, 116, 108, 101] : List UInt8)] : List (List UInt8)) b b2) fun (r : (List UInt8) × (List Int) × Int) =>
    (Option.bind (s_l30Rd_pick_m N 9 r.2.1 r.2.2) fun (r2 : Int × (List Int) × Int) =>
      (bif (decide (r2.1 = 0)) then
        (some (1, ([] : List UInt8), ([] : List (List UInt8)), 0, 0, r2.2.1, r2.2.2))
        else
        (bif (decide (r2.1 = 1)) then
          (Option.bind (s_l30Known_m N) fun (r3 : (List (List UInt8))) =>
            (Option.bind (s_l30Rd_of_m N r3 r2.2.1 r2.2.2) fun (r4 : (List UInt8) × (List Int) × Int) =>
              (Option.bind (s_l30Known_m N) fun (r5 : (List (List UInt8))) =>
                (Option.bind (s_l30Rd_of_m N r5 r4.2.1 r4.2.2) fun (r6 : (List UInt8) × (List Int) × Int) =>
                  (Option.bind (s_l30Rd_pick_m N 3 r6.2.1 r6.2.2) fun (r7 : Int × (List Int) × Int) =>
                    (some (3, r.1, ([r4.1, r6.1] : List (List UInt8)), r7.1, 0, r7.2.1, r7.2.2)))))))
          else
          (bif (decide (r2.1 = 2)) then
            (Option.bind (s_l30Rd_of_m N ([([99, 111, 116] : List UInt8), ([100, 117, 103] : List UInt8), ([114, 110] : List UInt8), ([102, 111, 103] : List UInt8)] : List (List UInt8)) r2.2.1 r2.2.2) fun (r8 : (List UInt8) × (List Int) × Int) =>
              (Option.bind (s_l30Rd_pick_m N 2 r8.2.1 r8.2.2) fun (r9 : Int × (List Int) × Int) =>
                (if fits (1 + r9.1) then (some (4, r.1, ([r8.1] : List (List UInt8)), (1 + r9.1), 0, r9.2.1, r9.2.2)) else none)))
            else
            (bif (decide (r2.1 = 3)) then
              (Option.bind (s_l30Rd_of_m N ([([99, 42] : List UInt8), ([63, 111, 63] : List UInt8), ([42, 110] : List UInt8), ([42] : List UInt8)] : List (List UInt8)) r2.2.1 r2.2.2) fun (r10 : (List UInt8) × (List Int) × Int) =>
                (some (5, r.1, ([r10.1] : List (List UInt8)), 0, 0, r10.2.1, r10.2.2)))
              else
              (bif (decide (r2.1 = 4)) then
                (Option.bind (s_l30Rd_pick_m N 4 r2.2.1 r2.2.2) fun (r11 : Int × (List Int) × Int) =>
                  (Option.bind (s_l30Rd_pick_m N 3 r11.2.1 r11.2.2) fun (r12 : Int × (List Int) × Int) =>
                    (if fits (r11.1 + r12.1) then (some (6, ([114, 97, 116, 101] : List UInt8), ([] : List (List UInt8)), r11.1, (r11.1 + r12.1), r12.2.1, r12.2.2)) else none)))
                else
                (Option.bind (s_l30Known_m N) fun (r13 : (List (List UInt8))) =>
                  (Option.bind (s_l30Rd_of_m N r13 r2.2.1 r2.2.2) fun (r14 : (List UInt8) × (List Int) × Int) =>
                    (some (2, r.1, ([r14.1] : List (List UInt8)), 0, 0, r14.2.1, r14.2.2)))))))))))
def s_l30Leaf_M (N : Nat) : Model := ⟨s_l30Leaf_arg, s_l30Leaf_ret, fun a => s_l30Leaf_m N a.1 a.2⟩
set_option maxRecDepth 1000000 in
theorem s_l30Leaf_ok (N : Nat) : ModelOk Try.prog 49 (s_l30Leaf_M N) :=
  modelOk_of (E := mkEnv [(65, s_l30Rd_of_M N), (47, s_l30Rd_pick_M N), (66, s_l30Known_M N)] [] [900000]) (mkEnv_ok (fnsOk_cons (s_l30Rd_of_ok N) (fnsOk_cons (s_l30Rd_pick_ok N) (fnsOk_cons (s_l30Known_ok N) fnsOk_nil))) _ _) Try.func49 (by kernel_rfl) rfl N s_l30Leaf_h (s_l30Leaf_M N) (by kernel_rfl) (by kernel_rfl) (fun a => by kernel_rfl)
/-! loop.example/fossick/spec.l1Dec -/
def s_l1Dec_arg : Sh := ⟨[.pv (.int .i64)], []⟩
def s_l1Dec_ret : Sh := ⟨[.pv .str], []⟩
def s_l1Dec_h : Hint := .no
def s_l1Dec_m (N : Nat) : (D : Nat) → Int → Option ((List UInt8))
  | 0, _ => none
  | D + 1, n =>
  (bif (decide (n < (-9223372036854775807))) then
    (some ([45, 57, 50, 50, 51, 51, 55, 50, 48, 51, 54, 56, 53, 52, 55, 55, 53, 56, 48, 56] : List UInt8))
    else
    (bif (decide (n < 0)) then
      (if fits (0 - n) then (Option.bind (s_l1Dec_m N D (0 - n)) fun (r : (List UInt8)) =>
          (if ([45] : List UInt8).length + r.length ≤ 9223372036854775807 then
            (some (([45] : List UInt8) ++ r))
            else none)) else none)
      else
      (bif (decide (n < 10)) then
        (if fits (48 + n) then (some (bytesOf ([(IntKind.u8.wrap (48 + n))] : List Int))) else none)
        else
        (if 10 ≠ 0 then
          (if fits (n.tdiv 10) then (Option.bind (s_l1Dec_m N D (n.tdiv 10)) fun (r2 : (List UInt8)) =>
              (if 10 ≠ 0 then
                (if fits (48 + (n.tmod 10)) then (if r2.length + (bytesOf ([(IntKind.u8.wrap (48 + (n.tmod 10)))] : List Int)).length ≤ 9223372036854775807 then
                    (some (r2 ++ (bytesOf ([(IntKind.u8.wrap (48 + (n.tmod 10)))] : List Int))))
                    else none) else none)
                else none)) else none)
          else none))))
def s_l1Dec_M (N D : Nat) : Model := ⟨s_l1Dec_arg, s_l1Dec_ret, fun a => s_l1Dec_m N D a⟩
set_option maxRecDepth 1000000 in
theorem s_l1Dec_ok (N : Nat) : ∀ D, ModelOk Try.prog 63 (s_l1Dec_M N D)
  | 0 => modelOk_none ⟨_, Try.func63, by decide, by kernel_rfl⟩ _ (fun a => rfl)
  | D + 1 =>
  modelOk_of (E := mkEnv [(63, s_l1Dec_M N D)] [] []) (mkEnv_ok (fnsOk_cons (s_l1Dec_ok N D) fnsOk_nil) _ _) Try.func63 (by kernel_rfl) rfl N s_l1Dec_h (s_l1Dec_M N (D + 1)) (by kernel_rfl) (by kernel_rfl) (fun a => by kernel_rfl)
/-! loop.example/fossick/spec.l11Join -/
def s_l11Join_arg : Sh := ⟨[.pv (.sl .str), .pv .str], []⟩
def s_l11Join_ret : Sh := ⟨[.pv .str], []⟩
def s_l11Join_s1 : Sh := ⟨[.pv (.sl .str), .pv .str, .dead, .dead, .dead, .pv .str, .pv (.int .i64), .dead, .dead, .dead, .dead, .dead, .dead, .dead, .dead, .dead, .dead, .dead, .dead, .dead, .dead, .dead, .dead, .dead, .dead], []⟩
def s_l11Join_s2 : Sh := ⟨[.pv (.sl .str), .pv .str, .dead, .dead, .dead, .pv .str, .pv (.int .i64), .dead, .dead, .dead, .dead, .dead, .dead, .dead, .dead, .dead, .dead, .dead, .dead, .dead, .dead, .dead, .dead, .dead, .dead], []⟩
def s_l11Join_h : Hint := (.seq .no (.seq .no (.seq (.seq .no (.block (.loop s_l11Join_s1 (.seq .no (.seq (.block (.meet s_l11Join_s2 .no .no)) .no))))) .no)))
def s_l11Join_m (N : Nat) (list : List (List UInt8)) (sign : List UInt8) : Option ((List UInt8)) :=
  (iter (fun (go : ((List (List UInt8)) × (List UInt8) × (List UInt8) × Int) → Option ((List UInt8))) (g : (List (List UInt8)) × (List UInt8) × (List UInt8) × Int) => 
      match g with
      | (list2, sign2, out, i) =>
      (bif (decide (i < (list2.length : Int))) then
        (meet (fun (g : (List (List UInt8)) × (List UInt8) × (List UInt8) × Int) => 
            match g with
            | (list3, sign3, out2, i2) =>
            (Option.bind (idx list3 i2) fun (e : List UInt8) =>
              (if out2.length + e.length ≤ 9223372036854775807 then
                (if fits (i2 + 1) then (go (list3, sign3, (out2 ++ e), (i2 + 1))) else none)
                else none))) fun (J : ((List (List UInt8)) × (List UInt8) × (List UInt8) × Int) → Option ((List UInt8))) =>
          (bif (decide ((0 : Int) < i)) then
            (if out.length + sign2.length ≤ 9223372036854775807 then
              (J (list2, sign2, (out ++ sign2), i))
              else none)
            else
            (J (list2, sign2, out, i))))
        else
        (some out))) N (list, sign, ([] : List UInt8), 0))
def s_l11Join_M (N : Nat) : Model := ⟨s_l11Join_arg, s_l11Join_ret, fun a => s_l11Join_m N a.1 a.2⟩
set_option maxRecDepth 1000000 in
theorem s_l11Join_ok (N : Nat) : ModelOk Try.prog 64 (s_l11Join_M N) :=
  modelOk_of (E := mkEnv [] [] []) (mkEnv_ok fnsOk_nil _ _) Try.func64 (by kernel_rfl) rfl N s_l11Join_h (s_l11Join_M N) (by kernel_rfl) (by kernel_rfl) (fun a => by kernel_rfl)
/-! loop.example/fossick/spec.l11Put -/
def s_l11Put_arg : Sh := ⟨[.agg [.pv (.int .i64), .pv .str, .pv (.sl .str), .pv (.int .i64), .pv (.int .i64), .pv (.sl .q)]], []⟩
def s_l11Put_ret : Sh := ⟨[.pv .str], []⟩
def s_l11Put_s1 : Sh := ⟨[.dead, .box 1 0, .dead, .own 10 .str 9 true, .dead, .dead, .dead, .dead, .dead, .dead, .dead, .dead, .pv (.int .i64), .dead, .dead, .pv .bool, .dead, .dead, .dead, .dead, .dead, .dead, .dead, .dead, .dead, .dead, .dead, .dead, .dead, .dead, .dead, .dead, .dead, .dead, .dead, .dead, .dead, .dead, .dead, .dead, .dead, .dead, .dead, .dead, .dead, .dead, .dead, .dead, .dead, .dead, .dead, .dead, .dead, .dead, .dead, .dead, .dead, .dead, .dead, .dead, .dead, .dead, .dead, .dead, .dead, .dead, .dead, .dead, .dead, .dead, .dead, .dead, .dead, .dead, .dead, .dead, .dead, .dead, .dead, .dead, .dead, .dead, .dead, .dead, .dead, .dead, .dead, .dead, .dead, .dead, .dead, .dead, .dead], [(1, false, [.pv (.int .i64), .pv .str, .pv (.sl .str), .pv (.int .i64), .pv (.int .i64), .pv (.sl .q)])]⟩
def s_l11Put_s2 : Sh := ⟨[.dead, .box 1 0, .dead, .dead, .pv .str, .pv (.int .i64), .dead, .dead, .dead, .dead, .dead, .dead, .dead, .dead, .dead, .dead, .dead, .dead, .dead, .dead, .dead, .dead, .dead, .dead, .dead, .dead, .dead, .dead, .dead, .dead, .dead, .dead, .dead, .dead, .dead, .dead, .dead, .dead, .dead, .dead, .dead, .dead, .dead, .dead, .dead, .dead, .dead, .dead, .dead, .dead, .dead, .dead, .dead, .dead, .dead, .dead, .dead, .dead, .dead, .dead, .dead, .dead, .dead, .dead, .dead, .dead, .dead, .dead, .dead, .dead, .dead, .dead, .dead, .dead, .dead, .dead, .dead, .dead, .dead, .dead, .dead, .dead, .dead, .dead, .dead, .dead, .dead, .dead, .dead, .dead, .dead, .dead, .dead], [(1, false, [.pv (.int .i64), .pv .str, .pv (.sl .str), .pv (.int .i64), .pv (.int .i64), .pv (.sl .q)])]⟩
def s_l11Put_h : Hint := (.seq .no (.seq .no (.seq (.seq .no (.block (.seq .no (.cond .no (.meet s_l11Put_s1 .no .no))))) (.seq .no (.seq (.seq .no (.block (.loop s_l11Put_s2 .no))) .no)))))
def s_l11Put_m (N : Nat) : (D : Nat) → Int → (List UInt8) → (List (List UInt8)) → Int → Int → (List DQ) → Option ((List UInt8))
  | 0, _, _, _, _, _, _ => none
  | D + 1, q, q2, q3, q4, q5, q6 =>
  (Option.bind (s_l1Dec_m N N q4) fun (r : (List UInt8)) =>
    (if ([116, 105, 109, 101, 115, 32] : List UInt8).length + r.length ≤ 9223372036854775807 then
      (bif (decide (q = 1)) then
        (some ([97, 108, 108] : List UInt8))
        else
        (meet (fun (g : (List (List UInt8)) × Int × Bool × Int × (List UInt8) × (List (List UInt8)) × Int × Int × (List DQ)) => 
            match g with
            | (heads, t12, t15, q7, q8, q9, q10, q11, q12) =>
            (bif t15 then
              (if q8.length + ([58] : List UInt8).length ≤ 9223372036854775807 then
                (Option.bind (idx q9 0) fun (e : List UInt8) =>
                  (if (q8 ++ ([58] : List UInt8)).length + e.length ≤ 9223372036854775807 then
                    (some ((q8 ++ ([58] : List UInt8)) ++ e))
                    else none))
                else none)
              else
              (bif (decide (t12 = 3)) then
                (if q8.length + ([58] : List UInt8).length ≤ 9223372036854775807 then
                  (Option.bind (s_l11Join_m N q9 ([43] : List UInt8)) fun (r2 : (List UInt8)) =>
                    (if (q8 ++ ([58] : List UInt8)).length + r2.length ≤ 9223372036854775807 then
                      (if ((q8 ++ ([58] : List UInt8)) ++ r2).length + ([126] : List UInt8).length ≤ 9223372036854775807 then
                        (Option.bind (s_l1Dec_m N N q10) fun (r3 : (List UInt8)) =>
                          (if (((q8 ++ ([58] : List UInt8)) ++ r2) ++ ([126] : List UInt8)).length + r3.length ≤ 9223372036854775807 then
                            (some ((((q8 ++ ([58] : List UInt8)) ++ r2) ++ ([126] : List UInt8)) ++ r3))
                            else none))
                        else none)
                      else none))
                  else none)
                else
                (bif (decide (t12 = 4)) then
                  (if q8.length + ([58] : List UInt8).length ≤ 9223372036854775807 then
                    (Option.bind (idx q9 0) fun (e2 : List UInt8) =>
                      (if (q8 ++ ([58] : List UInt8)).length + e2.length ≤ 9223372036854775807 then
                        (if ((q8 ++ ([58] : List UInt8)) ++ e2).length + ([37] : List UInt8).length ≤ 9223372036854775807 then
                          (Option.bind (s_l1Dec_m N N q10) fun (r4 : (List UInt8)) =>
                            (if (((q8 ++ ([58] : List UInt8)) ++ e2) ++ ([37] : List UInt8)).length + r4.length ≤ 9223372036854775807 then
                              (some ((((q8 ++ ([58] : List UInt8)) ++ e2) ++ ([37] : List UInt8)) ++ r4))
                              else none))
                          else none)
                        else none))
                    else none)
                  else
                  (bif (decide (t12 = 6)) then
                    (if q8.length + ([61] : List UInt8).length ≤ 9223372036854775807 then
                      (Option.bind (s_l1Dec_m N N q10) fun (r5 : (List UInt8)) =>
                        (if (q8 ++ ([61] : List UInt8)).length + r5.length ≤ 9223372036854775807 then
                          (if ((q8 ++ ([61] : List UInt8)) ++ r5).length + ([46, 46] : List UInt8).length ≤ 9223372036854775807 then
                            (Option.bind (s_l1Dec_m N N q11) fun (r6 : (List UInt8)) =>
                              (if (((q8 ++ ([61] : List UInt8)) ++ r5) ++ ([46, 46] : List UInt8)).length + r6.length ≤ 9223372036854775807 then
                                (some ((((q8 ++ ([61] : List UInt8)) ++ r5) ++ ([46, 46] : List UInt8)) ++ r6))
                                else none))
                            else none)
                          else none))
                      else none)
                    else
                    (Option.bind (idx heads q7) fun (e3 : List UInt8) =>
                      (if ([40] : List UInt8).length + e3.length ≤ 9223372036854775807 then
                        (iter (fun (go : ((List UInt8) × Int × Int × (List UInt8) × (List (List UInt8)) × Int × Int × (List DQ)) → Option ((List UInt8))) (g : (List UInt8) × Int × Int × (List UInt8) × (List (List UInt8)) × Int × Int × (List DQ)) => 
                            match g with
                            | (out, i, q13, q14, q15, q16, q17, q18) =>
                            (bif (decide (i < (q18.length : Int))) then
                              (if out.length + ([32] : List UInt8).length ≤ 9223372036854775807 then
                                (Option.bind (idx q18 i) fun (e4 : DQ) =>
                                  (Option.bind (s_l11Put_m N D e4.kind e4.field e4.words e4.lo e4.hi e4.kids) fun (r7 : (List UInt8)) =>
                                    (if (out ++ ([32] : List UInt8)).length + r7.length ≤ 9223372036854775807 then
                                      (if fits (i + 1) then (go (((out ++ ([32] : List UInt8)) ++ r7), (i + 1), q13, q14, q15, q16, q17, q18)) else none)
                                      else none)))
                                else none)
                              else
                              (if out.length + ([41] : List UInt8).length ≤ 9223372036854775807 then
                                (some (out ++ ([41] : List UInt8)))
                                else none))) N ((([40] : List UInt8) ++ e3), 0, q7, q8, q9, q10, q11, q12))
                        else none))))))) fun (J : ((List (List UInt8)) × Int × Bool × Int × (List UInt8) × (List (List UInt8)) × Int × Int × (List DQ)) → Option ((List UInt8))) =>
          (bif (decide (q = 2)) then
            (J (([([] : List UInt8), ([] : List UInt8), ([] : List UInt8), ([] : List UInt8), ([] : List UInt8), ([] : List UInt8), ([] : List UInt8), ([97, 110, 100] : List UInt8), ([111, 114] : List UInt8), ([108, 101, 115, 115] : List UInt8), (([116, 105, 109, 101, 115, 32] : List UInt8) ++ r)] : List (List UInt8)), q, true, q, q2, q3, q4, q5, q6))
            else
            (J (([([] : List UInt8), ([] : List UInt8), ([] : List UInt8), ([] : List UInt8), ([] : List UInt8), ([] : List UInt8), ([] : List UInt8), ([97, 110, 100] : List UInt8), ([111, 114] : List UInt8), ([108, 101, 115, 115] : List UInt8), (([116, 105, 109, 101, 115, 32] : List UInt8) ++ r)] : List (List UInt8)), q, (decide (q = 5)), q, q2, q3, q4, q5, q6)))))
      else none))
def s_l11Put_M (N D : Nat) : Model := ⟨s_l11Put_arg, s_l11Put_ret, fun a => s_l11Put_m N D a.1 a.2.1 a.2.2.1 a.2.2.2.1 a.2.2.2.2.1 a.2.2.2.2.2⟩
set_option maxRecDepth 1000000 in
theorem s_l11Put_ok (N : Nat) : ∀ D, ModelOk Try.prog 48 (s_l11Put_M N D)
  | 0 => modelOk_none ⟨_, Try.func48, by decide, by kernel_rfl⟩ _ (fun a => rfl)
  | D + 1 =>
  modelOk_of (E := mkEnv [(48, s_l11Put_M N D), (63, s_l1Dec_M N N), (64, s_l11Join_M N)] [] []) (mkEnv_ok (fnsOk_cons (s_l11Put_ok N D) (fnsOk_cons (s_l1Dec_ok N N) (fnsOk_cons (s_l11Join_ok N) fnsOk_nil))) _ _) Try.func48 (by kernel_rfl) rfl N s_l11Put_h (s_l11Put_M N (D + 1)) (by kernel_rfl) (by kernel_rfl) (fun a => by kernel_rfl)
/-! loop.example/fossick/spec.l13Push -/
def s_l13Push_arg : Sh := ⟨[.pv (.sl (.pair (.int .i64) (.int .i64))), .agg [.pv (.int .i64), .pv (.int .i64)], .pv (.int .i64)], []⟩
def s_l13Push_ret : Sh := ⟨[.own 1 (.pair (.int .i64) (.int .i64)) 78 true], []⟩
def s_l13Push_s1 : Sh := ⟨[.pv (.sl (.pair (.int .i64) (.int .i64))), .dead, .pv (.int .i64), .dead, .box 4 0, .dead, .dead, .pv (.int .i64), .dead, .dead, .dead, .dead, .dead, .dead, .dead, .dead, .dead, .dead, .dead, .dead, .dead, .dead, .dead, .dead, .dead, .dead, .dead, .dead, .dead, .dead, .dead, .dead, .dead, .dead, .dead, .dead, .dead, .dead, .dead, .dead, .dead, .dead, .dead, .dead, .dead], [(4, false, [.pv (.int .i64), .pv (.int .i64)])]⟩
def s_l13Push_h : Hint := (.seq .no (.seq .no (.seq (.block (.loop s_l13Push_s1 .no)) .no)))
def s_l13Push_m (N : Nat) (list : List (Int × Int)) (h : Int) (h2 : Int) (most : Int) : Option ((List (Int × Int))) :=
  (iter (fun (go : ((List (Int × Int)) × Int × Int × Int × Int) → Option ((List (Int × Int)))) (g : (List (Int × Int)) × Int × Int × Int × Int) => 
      match g with
      | (list2, most2, k, h3, h4) =>
      (bif (decide (k < (list2.length : Int))) then
        (Option.bind (idx list2 k) fun (e : Int × Int) =>
          (Option.bind (s_l13Less_m N e.1 e.2 h3 h4) fun (r : Bool) =>
            (bif r then
              (if fits (k + 1) then (go (list2, most2, (k + 1), h3, h4)) else none)
              else
              (Option.bind (cut list2 0 k) fun (y : List (Int × Int)) =>
                (if room ([] : List (Int × Int)).length y.length 16 then
                  (if room (([] : List (Int × Int)) ++ y).length ([(h3, h4)] : List (Int × Int)).length 16 then
                    (Option.bind (cut list2 k (list2.length : Int)) fun (y2 : List (Int × Int)) =>
                      (if room ((([] : List (Int × Int)) ++ y) ++ ([(h3, h4)] : List (Int × Int))).length y2.length 16 then
                        (bif (decide (most2 < ((((([] : List (Int × Int)) ++ y) ++ ([(h3, h4)] : List (Int × Int))) ++ y2).length : Int))) then
                          (Option.bind (cut (((([] : List (Int × Int)) ++ y) ++ ([(h3, h4)] : List (Int × Int))) ++ y2) 0 most2) fun (y3 : List (Int × Int)) =>
                            (some y3))
                          else
                          (some (((([] : List (Int × Int)) ++ y) ++ ([(h3, h4)] : List (Int × Int))) ++ y2)))
                        else none))
                    else none)
                  else none)))))
        else
        (Option.bind (cut list2 0 k) fun (y4 : List (Int × Int)) =>
          (if room ([] : List (Int × Int)).length y4.length 16 then
            (if room (([] : List (Int × Int)) ++ y4).length ([(h3, h4)] : List (Int × Int)).length 16 then
              (Option.bind (cut list2 k (list2.length : Int)) fun (y5 : List (Int × Int)) =>
                (if room ((([] : List (Int × Int)) ++ y4) ++ ([(h3, h4)] : List (Int × Int))).length y5.length 16 then
                  (bif (decide (most2 < ((((([] : List (Int × Int)) ++ y4) ++ ([(h3, h4)] : List (Int × Int))) ++ y5).length : Int))) then
                    (Option.bind (cut (((([] : List (Int × Int)) ++ y4) ++ ([(h3, h4)] : List (Int × Int))) ++ y5) 0 most2) fun (y6 : List (Int × Int)) =>
                      (some y6))
                    else
                    (some (((([] : List (Int × Int)) ++ y4) ++ ([(h3, h4)] : List (Int × Int))) ++ y5)))
                  else none))
              else none)
            else none)))) N (list, most, 0, h, h2))
def s_l13Push_M (N : Nat) : Model := ⟨s_l13Push_arg, s_l13Push_ret, fun a => s_l13Push_m N a.1 a.2.1 a.2.2.1 a.2.2.2⟩
set_option maxRecDepth 1000000 in
theorem s_l13Push_ok (N : Nat) : ModelOk Try.prog 72 (s_l13Push_M N) :=
  modelOk_of (E := mkEnv [(67, s_l13Less_M N)] [23, 26, 27, 30, 31, 35, 36, 43] []) (mkEnv_ok (fnsOk_cons (s_l13Less_ok N) fnsOk_nil) _ _) Try.func72 (by kernel_rfl) rfl N s_l13Push_h (s_l13Push_M N) (by kernel_rfl) (by kernel_rfl) (fun a => by kernel_rfl)
/-! loop.example/fossick/spec.l30Hits -/
def s_l30Hits_arg : Sh := ⟨[.box 900000 0], [(900000, false, [.pv (.sl (.int .u8)), .pv (.int .i64)])]⟩
def s_l30Hits_ret : Sh := ⟨[.own 1 (.pair (.int .i64) (.int .i64)) 78 true], [(900000, false, [.pv (.sl (.int .u8)), .pv (.int .i64)])]⟩
def s_l30Hits_s1 : Sh := ⟨[.box 900000 0, .dead, .dead, .own 600003 (.pair (.int .i64) (.int .i64)) 78 true, .pv (.int .i64), .dead, .dead, .dead, .dead, .dead, .dead, .dead, .dead, .dead, .dead, .dead, .dead, .dead, .dead, .dead, .dead, .dead, .dead, .dead, .dead, .dead, .dead, .dead, .dead, .dead, .dead, .dead, .dead, .dead, .dead, .dead, .dead, .dead, .dead, .dead, .dead, .dead, .dead, .dead, .dead], [(900000, false, [.pv (.sl (.int .u8)), .pv (.int .i64)])]⟩
def s_l30Hits_s2 : Sh := ⟨[.box 900000 0, .dead, .dead, .own 600003 (.pair (.int .i64) (.int .i64)) 78 true, .pv (.int .i64), .box 5 0, .pv .bool, .pv (.int .i64), .dead, .dead, .dead, .dead, .dead, .dead, .dead, .dead, .dead, .dead, .dead, .dead, .dead, .dead, .dead, .dead, .dead, .dead, .dead, .dead, .dead, .dead, .dead, .dead, .dead, .dead, .dead, .dead, .dead, .dead, .dead, .dead, .dead, .dead, .dead, .dead, .dead], [(5, false, [.pv (.int .i64), .pv (.int .i64)]), (900000, false, [.pv (.sl (.int .u8)), .pv (.int .i64)])]⟩
def s_l30Hits_h : Hint := (.seq .no (.seq .no (.seq (.seq .no (.block (.loop s_l30Hits_s1 (.seq .no (.seq (.block (.seq .no (.seq .no (.seq (.seq .no (.block (.loop s_l30Hits_s2 .no))) .no)))) .no))))) .no)))
def s_l30Hits_m (N : Nat) (b : List Int) (b2 : Int) : Option ((List (Int × Int)) × (List Int) × Int) :=
  (Option.bind (s_l30Rd_pick_m N 6 b b2) fun (r : Int × (List Int) × Int) =>
    (iter (fun (go : ((List (Int × Int)) × Int × (List Int) × Int) → Option ((List (Int × Int)) × (List Int) × Int)) (g : (List (Int × Int)) × Int × (List Int) × Int) => 
        match g with
        | (out, n, b3, b4) =>
        (bif (decide ((0 : Int) < n)) then
          (Option.bind (s_l30Rd_pick_m N 8 b3 b4) fun (r2 : Int × (List Int) × Int) =>
            (if fits (1 + r2.1) then (Option.bind (s_l30Rd_pick_m N 5 r2.2.1 r2.2.2) fun (r3 : Int × (List Int) × Int) =>
                (if fits (1 + r3.1) then (iter (fun (go2 : ((List (Int × Int)) × Int × Bool × Int × Int × Int × (List Int) × Int) → Option ((List (Int × Int)) × (List Int) × Int)) (g : (List (Int × Int)) × Int × Bool × Int × Int × Int × (List Int) × Int) => 
                      match g with
                      | (out2, n2, is, i, h, h2, b5, b6) =>
                      (bif (decide (i < (out2.length : Int))) then
                        (bif is then
                          (if fits (i + 1) then (go2 (out2, n2, true, (i + 1), h, h2, b5, b6)) else none)
                          else
                          (Option.bind (idx out2 i) fun (e : Int × Int) =>
                            (if fits (i + 1) then (go2 (out2, n2, (decide (e.1 = h)), (i + 1), h, h2, b5, b6)) else none)))
                        else
                        (bif (!is) then
                          (Option.bind (s_l13Push_m N out2 h h2 16) fun (r4 : (List (Int × Int))) =>
                            (if fits (n2 - 1) then (go (r4, (n2 - 1), b5, b6)) else none))
                          else
                          (if fits (n2 - 1) then (go (out2, (n2 - 1), b5, b6)) else none)))) N (out, n, false, 0, (1 + r2.1), (1 + r3.1), r3.2.1, r3.2.2)) else none)) else none))
          else
          (some (out, b3, b4)))) N (([] : List (Int × Int)), r.1, r.2.1, r.2.2)))
def s_l30Hits_M (N : Nat) : Model := ⟨s_l30Hits_arg, s_l30Hits_ret, fun a => s_l30Hits_m N a.1 a.2⟩
set_option maxRecDepth 1000000 in
theorem s_l30Hits_ok (N : Nat) : ModelOk Try.prog 62 (s_l30Hits_M N) :=
  modelOk_of (E := mkEnv [(47, s_l30Rd_pick_M N), (72, s_l13Push_M N)] [] [900000]) (mkEnv_ok (fnsOk_cons (s_l30Rd_pick_ok N) (fnsOk_cons (s_l13Push_ok N) fnsOk_nil)) _ _) Try.func62 (by kernel_rfl) rfl N s_l30Hits_h (s_l30Hits_M N) (by kernel_rfl) (by kernel_rfl) (fun a => by kernel_rfl)
/-! loop.example/fossick/spec.l24Copy -/
def s_l24Copy_arg : Sh := ⟨[.agg [.pv (.int .i64), .pv (.int .i64), .pv (.sl (.pair .str (.sl (.pair (.int .i64) (.int .i64)))))]], []⟩
def s_l24Copy_ret : Sh := ⟨[.agg [.pv (.int .i64), .pv (.int .i64), .own 1 (.pair .str (.sl (.pair (.int .i64) (.int .i64)))) 46 true]], []⟩
def s_l24Copy_s1 : Sh := ⟨[.dead, .box 1 0, .box 2 0, .box 3 0, .pv (.int .i64), .dead, .dead, .dead, .dead, .dead, .dead, .dead, .dead, .dead, .dead, .dead, .dead, .dead, .dead, .dead, .dead, .dead, .dead, .dead, .dead, .dead, .dead, .dead, .dead, .dead, .dead, .dead, .dead, .dead, .dead, .dead, .dead, .dead], [(1, false, [.pv (.int .i64), .pv (.int .i64), .pv (.sl (.pair .str (.sl (.pair (.int .i64) (.int .i64)))))]), (2, false, [.pv (.int .i64), .pv (.int .i64), .nils]), (3, false, [.pv (.int .i64), .pv (.int .i64), .own 700302 (.pair .str (.sl (.pair (.int .i64) (.int .i64)))) 46 true])]⟩
def s_l24Copy_h : Hint := (.seq .no (.seq .no (.seq (.seq .no (.block (.loop s_l24Copy_s1 .no))) .no)))
def s_l24Copy_m (N : Nat) (c : Int) (c2 : Int) (c3 : List ((List UInt8) × (List (Int × Int)))) : Option (Int × Int × (List ((List UInt8) × (List (Int × Int))))) :=
  (iter (fun (go : (Int × Int × Int × (List ((List UInt8) × (List (Int × Int)))) × Int × Int × Int × Int × (List ((List UInt8) × (List (Int × Int))))) → Option (Int × Int × (List ((List UInt8) × (List (Int × Int)))))) (g : Int × Int × Int × (List ((List UInt8) × (List (Int × Int)))) × Int × Int × Int × Int × (List ((List UInt8) × (List (Int × Int))))) => 
      match g with
      | (i, c4, c5, c6, b, b2, out, out2, out3) =>
      (bif (decide (i < (c6.length : Int))) then
        (Option.bind (idx c6 i) fun (e : (List UInt8) × (List (Int × Int))) =>
          (Option.bind (idx c6 i) fun (e2 : (List UInt8) × (List (Int × Int))) =>
            (if room ([] : List (Int × Int)).length e2.2.length 16 then
              (if room out3.length ([(e.1, (([] : List (Int × Int)) ++ e2.2))] : List ((List UInt8) × (List (Int × Int)))).length 40 then
                (if fits (i + 1) then (go ((i + 1), c4, c5, c6, b, b2, out, out2, (out3 ++ ([(e.1, (([] : List (Int × Int)) ++ e2.2))] : List ((List UInt8) × (List (Int × Int))))))) else none)
                else none)
              else none)))
        else
        (some (out, out2, out3)))) N (0, c, c2, c3, 0, 0, c, c2, ([] : List ((List UInt8) × (List (Int × Int))))))
def s_l24Copy_M (N : Nat) : Model := ⟨s_l24Copy_arg, s_l24Copy_ret, fun a => s_l24Copy_m N a.1 a.2.1 a.2.2⟩
set_option maxRecDepth 1000000 in
theorem s_l24Copy_ok (N : Nat) : ModelOk Try.prog 51 (s_l24Copy_M N) :=
  modelOk_of (E := mkEnv [] [] []) (mkEnv_ok fnsOk_nil _ _) Try.func51 (by kernel_rfl) rfl N s_l24Copy_h (s_l24Copy_M N) (by kernel_rfl) (by kernel_rfl) (fun a => by kernel_rfl)
/-! loop.example/fossick/spec.CachePut -/
def s_CachePut_arg : Sh := ⟨[.agg [.pv (.int .i64), .pv (.int .i64), .pv (.sl (.pair .str (.sl (.pair (.int .i64) (.int .i64)))))], .pv .str, .pv (.int .i64), .pv (.sl (.pair (.int .i64) (.int .i64)))], []⟩
def s_CachePut_ret : Sh := ⟨[.agg [.pv (.int .i64), .pv (.int .i64), .own 1 (.pair .str (.sl (.pair (.int .i64) (.int .i64)))) 46 false]], []⟩
def s_CachePut_s1 : Sh := ⟨[.dead, .pv .str, .pv (.int .i64), .dead, .box 4 0, .dead, .dead, .dead, .box 8 0, .box 9 0, .box 10 0, .pv (.int .i64), .dead, .dead, .dead, .dead, .dead, .dead, .dead, .dead, .dead, .dead, .dead, .dead, .dead, .dead, .dead, .dead, .dead, .dead, .dead, .dead, .dead, .dead, .dead, .dead, .dead, .dead, .dead, .dead, .dead, .dead, .dead, .dead, .dead, .dead, .dead, .dead, .dead, .dead, .dead, .dead, .dead, .dead, .dead, .dead, .dead, .dead, .dead, .dead, .dead, .dead, .dead, .dead, .dead, .dead, .dead, .dead, .dead, .dead, .dead, .dead, .dead, .dead, .dead, .dead, .dead, .dead, .dead, .dead, .dead, .dead], [(4, false, [.pv (.int .i64), .pv (.int .i64), .pv (.sl (.pair .str (.sl (.pair (.int .i64) (.int .i64)))))]), (8, false, [.pv (.int .i64), .pv (.int .i64), .nils]), (9, false, [.pv (.int .i64), .pv (.int .i64), .own 700902 (.pair .str (.sl (.pair (.int .i64) (.int .i64)))) 46 false]), (10, false, [.pv (.int .i64), .pv (.int .i64), .own 701002 (.pair .str (.sl (.pair (.int .i64) (.int .i64)))) 46 true])]⟩
def s_CachePut_h : Hint := (.seq .no (.seq .no (.seq .no (.seq .no (.seq .no (.seq (.seq .no (.block (.loop s_CachePut_s1 .no))) .no))))))
def s_CachePut_m (N : Nat) (c : Int) (c2 : Int) (c3 : List ((List UInt8) × (List (Int × Int)))) (ask : List UInt8) (gen : Int) (hits : List (Int × Int)) : Option (Int × Int × (List ((List UInt8) × (List (Int × Int))))) :=
  (Option.bind (s_l24Ok_m N c c2 c3) fun (r : Bool) =>
    (bif (!r) then
      (some (0, 0, ([] : List ((List UInt8) × (List (Int × Int))))))
      else
      (bif (decide (ask = ([] : List UInt8))) then
        (Option.bind (s_l24Copy_m N c c2 c3) fun (r2 : Int × Int × (List ((List UInt8) × (List (Int × Int))))) =>
          (some (r2.1, r2.2.1, r2.2.2)))
        else
        (Option.bind (s_l13Ok_m N hits) fun (r3 : Bool) =>
          (bif (!r3) then
            (Option.bind (s_l24Copy_m N c c2 c3) fun (r4 : Int × Int × (List ((List UInt8) × (List (Int × Int))))) =>
              (some (r4.1, r4.2.1, r4.2.2)))
            else
            (Option.bind (s_l1In_m N gen 0 999999999) fun (r5 : Bool) =>
              (bif (!r5) then
                (Option.bind (s_l24Copy_m N c c2 c3) fun (r6 : Int × Int × (List ((List UInt8) × (List (Int × Int))))) =>
                  (some (r6.1, r6.2.1, r6.2.2)))
                else
                (if room ([] : List (Int × Int)).length hits.length 16 then
                  (Option.bind (s_l24Copy_m N c c2 c3) fun (r7 : Int × Int × (List ((List UInt8) × (List (Int × Int))))) =>
                    (iter (fun (go : ((List UInt8) × Int × Int × Int × Int × (List ((List UInt8) × (List (Int × Int)))) × Int × Int × Int × Int × (List ((List UInt8) × (List (Int × Int)))) × Int × Int × (List ((List UInt8) × (List (Int × Int))))) → Option (Int × Int × (List ((List UInt8) × (List (Int × Int)))))) (g : (List UInt8) × Int × Int × Int × Int × (List ((List UInt8) × (List (Int × Int)))) × Int × Int × Int × Int × (List ((List UInt8) × (List (Int × Int)))) × Int × Int × (List ((List UInt8) × (List (Int × Int))))) => 
                        match g with
                        | (ask2, gen2, i, c4, c5, c6, b, b2, out, out2, out3, old, old2, old3) =>
                        (bif (decide (i < (old3.length : Int))) then
                          (bif (decide (gen2 = c5)) then
                            (bif (decide ((out3.length : Int) < c4)) then
                              (Option.bind (idx old3 i) fun (e : (List UInt8) × (List (Int × Int))) =>
                                (bif (!decide (e.1 = ask2)) then
                                  (Option.bind (idx old3 i) fun (e2 : (List UInt8) × (List (Int × Int))) =>
                                    (if room out3.length ([e2] : List ((List UInt8) × (List (Int × Int)))).length 40 then
                                      (if fits (i + 1) then (go (ask2, gen2, (i + 1), c4, c5, c6, b, b2, out, out2, (out3 ++ ([e2] : List ((List UInt8) × (List (Int × Int))))), old, old2, old3)) else none)
                                      else none))
                                  else
                                  (if fits (i + 1) then (go (ask2, gen2, (i + 1), c4, c5, c6, b, b2, out, out2, out3, old, old2, old3)) else none)))
                              else
                              (some (out, out2, out3)))
                            else
                            (some (out, out2, out3)))
                          else
                          (some (out, out2, out3)))) N (ask, gen, 0, c, c2, c3, 0, 0, c, gen, ([(ask, (([] : List (Int × Int)) ++ hits))] : List ((List UInt8) × (List (Int × Int)))), r7.1, r7.2.1, r7.2.2)))
                  else none))))))))
def s_CachePut_M (N : Nat) : Model := ⟨s_CachePut_arg, s_CachePut_ret, fun a => s_CachePut_m N a.1 a.2.1 a.2.2.1 a.2.2.2.1 a.2.2.2.2.1 a.2.2.2.2.2⟩
set_option maxRecDepth 1000000 in
theorem s_CachePut_ok (N : Nat) : ModelOk Try.prog 31 (s_CachePut_M N) :=
  modelOk_of (E := mkEnv [(44, s_l24Ok_M N), (51, s_l24Copy_M N), (54, s_l13Ok_M N), (35, s_l1In_M N)] [] []) (mkEnv_ok (fnsOk_cons (s_l24Ok_ok N) (fnsOk_cons (s_l24Copy_ok N) (fnsOk_cons (s_l13Ok_ok N) (fnsOk_cons (s_l1In_ok N) fnsOk_nil)))) _ _) Try.func31 (by kernel_rfl) rfl N s_CachePut_h (s_CachePut_M N) (by kernel_rfl) (by kernel_rfl) (fun a => by kernel_rfl)
/-! loop.example/fossick/spec.l30Cache -/
def s_l30Cache_arg : Sh := ⟨[.box 900000 0], [(900000, false, [.pv (.sl (.int .u8)), .pv (.int .i64)])]⟩
def s_l30Cache_ret : Sh := ⟨[.agg [.pv (.int .i64), .pv (.int .i64), .own 1 (.pair .str (.sl (.pair (.int .i64) (.int .i64)))) 46 true]], [(900000, false, [.pv (.sl (.int .u8)), .pv (.int .i64)])]⟩
def s_l30Cache_s1 : Sh := ⟨[.box 900000 0, .dead, .box 2 0, .box 3 0, .pv (.int .i64), .dead, .dead, .dead, .dead, .dead, .dead, .dead, .dead, .dead, .dead, .dead, .dead, .dead, .dead, .dead, .dead, .dead, .dead, .dead, .dead, .dead, .dead, .dead, .dead, .dead, .dead, .dead, .dead, .dead, .dead, .dead, .dead, .dead, .dead, .dead, .dead, .dead, .dead, .dead, .dead, .dead, .dead, .dead, .dead, .dead, .dead, .dead], [(2, false, [.pv (.int .i64), .pv (.int .i64), .nils]), (3, false, [.pv (.int .i64), .pv (.int .i64), .own 700302 (.pair .str (.sl (.pair (.int .i64) (.int .i64)))) 46 false]), (900000, false, [.pv (.sl (.int .u8)), .pv (.int .i64)])]⟩
def s_l30Cache_s2 : Sh := ⟨[.dead, .dead, .box 2 0, .box 3 0, .dead, .dead, .dead, .dead, .dead, .dead, .dead, .dead, .dead, .dead, .dead, .dead, .dead, .dead, .dead, .dead, .dead, .dead, .dead, .dead, .dead, .dead, .dead, .dead, .dead, .dead, .dead, .dead, .dead, .dead, .dead, .dead, .dead, .dead, .dead, .dead, .dead, .dead, .dead, .dead, .dead, .dead, .dead, .dead, .dead, .dead, .dead, .dead], [(2, false, [.pv (.int .i64), .pv (.int .i64), .nils]), (3, false, [.pv (.int .i64), .pv (.int .i64), .own 48 (.pair .str (.sl (.pair (.int .i64) (.int .i64)))) 46 false]), (900000, false, [.pv (.sl (.int .u8)), .pv (.int .i64)])]⟩
def s_l30Cache_h : Hint := (.seq .no (.seq .no (.seq .no (.seq (.seq .no (.block (.loop s_l30Cache_s1 .no))) (.meet s_l30Cache_s2 .no .no)))))
def s_l30Cache_m (N : Nat) (b : List Int) (b2 : Int) : Option (Int × Int × (List ((List UInt8) × (List (Int × Int)))) × (List Int) × Int) :=
  (Option.bind (s_l30Rd_pick_m N 5 b b2) fun (r : Int × (List Int) × Int) =>
    (if fits (1 + r.1) then (Option.bind (s_CacheNew_m N (1 + r.1)) fun (r2 : Int × Int) =>
        (Option.bind (s_l30Rd_pick_m N 2 r.2.1 r.2.2) fun (r3 : Int × (List Int) × Int) =>
          (Option.bind (s_l30Rd_pick_m N 6 r3.2.1 r3.2.2) fun (r4 : Int × (List Int) × Int) =>
            (iter (fun (go : (Int × Int × Int × Int × Int × (List ((List UInt8) × (List (Int × Int)))) × (List Int) × Int) → Option (Int × Int × (List ((List UInt8) × (List (Int × Int)))) × (List Int) × Int)) (g : Int × Int × Int × Int × Int × (List ((List UInt8) × (List (Int × Int)))) × (List Int) × Int) => 
                match g with
                | (n, b3, b4, c, c2, c3, b5, b6) =>
                (bif (decide ((0 : Int) < n)) then
                  (Option.bind (s_l30Leaf_m N b5 b6) fun (r5 : Int × (List UInt8) × (List (List UInt8)) × Int × Int × (List Int) × Int) =>
                    (Option.bind (s_l11Put_m N N r5.1 r5.2.1 r5.2.2.1 r5.2.2.2.1 r5.2.2.2.2.1 ([] : List DQ)) fun (r6 : (List UInt8)) =>
                      (Option.bind (s_l30Rd_one_m N ([c2, c2, c2, 1] : List Int) r5.2.2.2.2.2.1 r5.2.2.2.2.2.2) fun (r7 : Int × (List Int) × Int) =>
                        (Option.bind (s_l30Hits_m N r7.2.1 r7.2.2) fun (r8 : (List (Int × Int)) × (List Int) × Int) =>
                          (Option.bind (s_CachePut_m N c c2 c3 r6 r7.1 r8.1) fun (r9 : Int × Int × (List ((List UInt8) × (List (Int × Int))))) =>
                            (if fits (n - 1) then (go ((n - 1), b3, b4, r9.1, r9.2.1, r9.2.2, r8.2.1, r8.2.2)) else none))))))
                  else
                  (meet (fun (g : Int × Int × Int × Int × (List ((List UInt8) × (List (Int × Int)))) × (List Int) × Int) => 
                      match g with
                      | (b7, b8, c4, c5, c6, b9, b10) =>
                      (Option.bind (s_l24Copy_m N c4 c5 c6) fun (r12 : Int × Int × (List ((List UInt8) × (List (Int × Int))))) =>
                        (some (r12.1, r12.2.1, r12.2.2, b9, b10)))) fun (J : (Int × Int × Int × Int × (List ((List UInt8) × (List (Int × Int)))) × (List Int) × Int) → Option (Int × Int × (List ((List UInt8) × (List (Int × Int)))) × (List Int) × Int)) =>
                    (Option.bind (s_l30Rd_pick_m N 14 b5 b6) fun (r10 : Int × (List Int) × Int) =>
                      (bif (decide (r10.1 = 0)) then
                        (Option.bind (s_l30Rd_one_m N ([0, 6] : List Int) r10.2.1 r10.2.2) fun (r11 : Int × (List Int) × Int) =>
                          (J (b3, b4, r11.1, c2, c3, r11.2.1, r11.2.2)))
                        else
                        (bif (decide (r10.1 = 1)) then
                          (if room c3.length ([(([] : List UInt8), ([] : List (Int × Int)))] : List ((List UInt8) × (List (Int × Int)))).length 40 then
                            (J (b3, b4, c, c2, (c3 ++ ([(([] : List UInt8), ([] : List (Int × Int)))] : List ((List UInt8) × (List (Int × Int))))), r10.2.1, r10.2.2))
                            else none)
                          else
                          (J (b3, b4, c, c2, c3, r10.2.1, r10.2.2)))))))) N (r4.1, 0, 0, r2.1, r3.1, ([] : List ((List UInt8) × (List (Int × Int)))), r4.2.1, r4.2.2))))) else none))
def s_l30Cache_M (N : Nat) : Model := ⟨s_l30Cache_arg, s_l30Cache_ret, fun a => s_l30Cache_m N a.1 a.2⟩
set_option maxRecDepth 1000000 in
theorem s_l30Cache_ok (N : Nat) : ModelOk Try.prog 46 (s_l30Cache_M N) :=
  modelOk_of (E := mkEnv [(47, s_l30Rd_pick_M N), (10, s_CacheNew_M N), (49, s_l30Leaf_M N), (48, s_l11Put_M N N), (41, s_l30Rd_one_M N), (62, s_l30Hits_M N), (31, s_CachePut_M N), (51, s_l24Copy_M N)] [] [900000]) (mkEnv_ok (fnsOk_cons (s_l30Rd_pick_ok N) (fnsOk_cons (s_CacheNew_ok N) (fnsOk_cons (s_l30Leaf_ok N) (fnsOk_cons (s_l11Put_ok N N) (fnsOk_cons (s_l30Rd_one_ok N) (fnsOk_cons (s_l30Hits_ok N) (fnsOk_cons (s_CachePut_ok N) (fnsOk_cons (s_l24Copy_ok N) fnsOk_nil)))))))) _ _) Try.func46 (by kernel_rfl) rfl N s_l30Cache_h (s_l30Cache_M N) (by kernel_rfl) (by kernel_rfl) (fun a => by kernel_rfl)
/-! loop.example/fossick/spec.DrawCacheGet -/
def s_DrawCacheGet_arg : Sh := ⟨[.pv (.sl (.int .u8))], []⟩
def s_DrawCacheGet_ret : Sh := ⟨[.tup [.agg [.pv (.int .i64), .pv (.int .i64), .own 1 (.pair .str (.sl (.pair (.int .i64) (.int .i64)))) 46 true], .pv .str, .pv (.int .i64)]], []⟩
def s_DrawCacheGet_h : Hint := .no
def s_DrawCacheGet_m (N : Nat) (code : List Int) : Option (Int × Int × (List ((List UInt8) × (List (Int × Int)))) × (List UInt8) × Int) :=
  (Option.bind (s_l30Open_m N code) fun (r : (List Int) × Int) =>
    (Option.bind (s_l30Cache_m N r.1 r.2) fun (r2 : Int × Int × (List ((List UInt8) × (List (Int × Int)))) × (List Int) × Int) =>
      (bif (decide ((0 : Int) < (r2.2.2.1.length : Int))) then
        (Option.bind (s_l30Rd_pick_m N 3 r2.2.2.2.1 r2.2.2.2.2) fun (r3 : Int × (List Int) × Int) =>
          (bif (decide ((0 : Int) < r3.1)) then
            (Option.bind (s_l30Rd_pick_m N (r2.2.2.1.length : Int) r3.2.1 r3.2.2) fun (r4 : Int × (List Int) × Int) =>
              (Option.bind (idx r2.2.2.1 r4.1) fun (e : (List UInt8) × (List (Int × Int))) =>
                (Option.bind (s_l30Rd_one_m N ([r2.2.1, r2.2.1, 7] : List Int) r4.2.1 r4.2.2) fun (r5 : Int × (List Int) × Int) =>
                  (some (r2.1, r2.2.1, r2.2.2.1, e.1, r5.1)))))
            else
            (Option.bind (s_l30Leaf_m N r3.2.1 r3.2.2) fun (r6 : Int × (List UInt8) × (List (List UInt8)) × Int × Int × (List Int) × Int) =>
              (Option.bind (s_l11Put_m N N r6.1 r6.2.1 r6.2.2.1 r6.2.2.2.1 r6.2.2.2.2.1 ([] : List DQ)) fun (r7 : (List UInt8)) =>
                (some (r2.1, r2.2.1, r2.2.2.1, r7, r2.2.1))))))
        else
        (Option.bind (s_l30Leaf_m N r2.2.2.2.1 r2.2.2.2.2) fun (r8 : Int × (List UInt8) × (List (List UInt8)) × Int × Int × (List Int) × Int) =>
          (Option.bind (s_l11Put_m N N r8.1 r8.2.1 r8.2.2.1 r8.2.2.2.1 r8.2.2.2.2.1 ([] : List DQ)) fun (r9 : (List UInt8)) =>
            (some (r2.1, r2.2.1, r2.2.2.1, r9, r2.2.1)))))))
def s_DrawCacheGet_M (N : Nat) : Model := ⟨s_DrawCacheGet_arg, s_DrawCacheGet_ret, fun a => s_DrawCacheGet_m N a⟩
set_option maxRecDepth 1000000 in
theorem s_DrawCacheGet_ok (N : Nat) : ModelOk Try.prog 21 (s_DrawCacheGet_M N) :=
  modelOk_of (E := mkEnv [(40, s_l30Open_M N), (46, s_l30Cache_M N), (47, s_l30Rd_pick_M N), (41, s_l30Rd_one_M N), (49, s_l30Leaf_M N), (48, s_l11Put_M N N)] [] []) (mkEnv_ok (fnsOk_cons (s_l30Open_ok N) (fnsOk_cons (s_l30Cache_ok N) (fnsOk_cons (s_l30Rd_pick_ok N) (fnsOk_cons (s_l30Rd_one_ok N) (fnsOk_cons (s_l30Leaf_ok N) (fnsOk_cons (s_l11Put_ok N N) fnsOk_nil)))))) _ _) Try.func21 (by kernel_rfl) rfl N s_DrawCacheGet_h (s_DrawCacheGet_M N) (by kernel_rfl) (by kernel_rfl) (fun a => by kernel_rfl)
/-! (loop.example/fossick/impl.Cache).without -/
def i_Cache_without_arg : Sh := ⟨[.agg [.pv (.int .i64), .pv (.int .i64), .pv (.sl (.pair .str (.sl (.pair (.int .i64) (.int .i64)))))], .pv .str], []⟩
def i_Cache_without_ret : Sh := ⟨[.mtk 1 (.pair .str (.sl (.pair (.int .i64) (.int .i64)))) 46 true], []⟩
def i_Cache_without_s1 : Sh := ⟨[.dead, .pv .str, .dead, .dead, .dead, .mtk 600005 (.pair .str (.sl (.pair (.int .i64) (.int .i64)))) 46 true, .dead, .dead, .dead, .dead, .pv (.sl (.pair .str (.sl (.pair (.int .i64) (.int .i64))))), .pv (.int .i64), .pv (.int .i64), .dead, .dead, .dead, .dead, .dead, .dead, .dead, .dead, .dead, .dead, .dead, .dead, .dead, .dead, .dead, .dead, .dead, .dead, .dead], []⟩
def i_Cache_without_h : Hint := (.seq .no (.seq .no (.seq (.seq .no (.block (.loop i_Cache_without_s1 .no))) .no)))
def i_Cache_without_m (N : Nat) (c : Int) (c2 : Int) (c3 : List ((List UInt8) × (List (Int × Int)))) (ask : List UInt8) : Option ((List ((List UInt8) × (List (Int × Int))))) :=
  (iter (fun (go : ((List UInt8) × (List ((List UInt8) × (List (Int × Int)))) × (List ((List UInt8) × (List (Int × Int)))) × Int × Int) → Option ((List ((List UInt8) × (List (Int × Int)))))) (g : (List UInt8) × (List ((List UInt8) × (List (Int × Int)))) × (List ((List UInt8) × (List (Int × Int)))) × Int × Int) => 
      match g with
      | (ask2, out, t10, t11, t12) =>
      (bif (decide (t12 < t11)) then
        (Option.bind (idx t10 t12) fun (e : (List UInt8) × (List (Int × Int))) =>
          (bif (!decide (e.1 = ask2)) then
            (if room ([] : List (Int × Int)).length e.2.length 16 then
              (if room out.length ([(e.1, (([] : List (Int × Int)) ++ e.2))] : List ((List UInt8) × (List (Int × Int)))).length 40 then
                (if fits (t12 + 1) then (go (ask2, (out ++ ([(e.1, (([] : List (Int × Int)) ++ e.2))] : List ((List UInt8) × (List (Int × Int))))), t10, t11, (t12 + 1))) else none)
                else none)
              else none)
            else
            (if fits (t12 + 1) then (go (ask2, out, t10, t11, (t12 + 1))) else none)))
        else
        (some out))) N (ask, ([] : List ((List UInt8) × (List (Int × Int)))), c3, (c3.length : Int), 0))
def i_Cache_without_M (N : Nat) : Model := ⟨i_Cache_without_arg, i_Cache_without_ret, fun a => i_Cache_without_m N a.1 a.2.1 a.2.2.1 a.2.2.2⟩
set_option maxRecDepth 1000000 in
theorem i_Cache_without_ok (N : Nat) : ModelOk Try.prog 50 (i_Cache_without_M N) :=
  modelOk_of (E := mkEnv [] [8, 28, 29] []) (mkEnv_ok fnsOk_nil _ _) Try.func50 (by kernel_rfl) rfl N i_Cache_without_h (i_Cache_without_M N) (by kernel_rfl) (by kernel_rfl) (fun a => by kernel_rfl)
/-! loop.example/fossick/impl.CacheGet -/
def i_CacheGet_arg : Sh := ⟨[.agg [.pv (.int .i64), .pv (.int .i64), .pv (.sl (.pair .str (.sl (.pair (.int .i64) (.int .i64)))))], .pv .str, .pv (.int .i64)], []⟩
def i_CacheGet_ret : Sh := ⟨[.tup [.agg [.pv (.int .i64), .pv (.int .i64), .own 1 (.pair .str (.sl (.pair (.int .i64) (.int .i64)))) 46 true], .own 2 (.pair (.int .i64) (.int .i64)) 78 true, .pv .bool]], []⟩
def i_CacheGet_h : Hint := .no
def i_CacheGet_m (N : Nat) (c : Int) (c2 : Int) (c3 : List ((List UInt8) × (List (Int × Int)))) (ask : List UInt8) (gen : Int) : Option (Int × Int × (List ((List UInt8) × (List (Int × Int)))) × (List (Int × Int)) × Bool) :=
  (Option.bind (i_CacheOk_m N c c2 c3) fun (r : Bool) =>
    (bif (!r) then
      (some (0, 0, ([] : List ((List UInt8) × (List (Int × Int)))), ([] : List (Int × Int)), false))
      else
      (Option.bind (i_Cache_find_m N c c2 c3 ask) fun (r2 : Int) =>
        (bif (!decide (gen = c2)) then
          (Option.bind (i_Cache_without_m N c c2 c3 ([] : List UInt8)) fun (r3 : (List ((List UInt8) × (List (Int × Int))))) =>
            (some (c, c2, r3, ([] : List (Int × Int)), false)))
          else
          (bif (decide (r2 < 0)) then
            (Option.bind (i_Cache_without_m N c c2 c3 ([] : List UInt8)) fun (r4 : (List ((List UInt8) × (List (Int × Int))))) =>
              (some (c, c2, r4, ([] : List (Int × Int)), false)))
            else
            (Option.bind (idx c3 r2) fun (e : (List UInt8) × (List (Int × Int))) =>
              (if room ([] : List (Int × Int)).length e.2.length 16 then
                (Option.bind (i_Cache_without_m N c c2 c3 ask) fun (r5 : (List ((List UInt8) × (List (Int × Int))))) =>
                  (if room ([(ask, (([] : List (Int × Int)) ++ e.2))] : List ((List UInt8) × (List (Int × Int)))).length r5.length 40 then
                    (if room ([] : List (Int × Int)).length e.2.length 16 then
                      (some (c, c2, (([(ask, (([] : List (Int × Int)) ++ e.2))] : List ((List UInt8) × (List (Int × Int)))) ++ r5), (([] : List (Int × Int)) ++ e.2), true))
                      else none)
                    else none))
                else none)))))))
def i_CacheGet_M (N : Nat) : Model := ⟨i_CacheGet_arg, i_CacheGet_ret, fun a => i_CacheGet_m N a.1 a.2.1 a.2.2.1 a.2.2.2.1 a.2.2.2.2⟩
set_option maxRecDepth 1000000 in
theorem i_CacheGet_ok (N : Nat) : ModelOk Try.prog 22 (i_CacheGet_M N) :=
  modelOk_of (E := mkEnv [(17, i_CacheOk_M N), (42, i_Cache_find_M N), (50, i_Cache_without_M N)] [] []) (mkEnv_ok (fnsOk_cons (i_CacheOk_ok N) (fnsOk_cons (i_Cache_find_ok N) (fnsOk_cons (i_Cache_without_ok N) fnsOk_nil))) _ _) Try.func22 (by kernel_rfl) rfl N i_CacheGet_h (i_CacheGet_M N) (by kernel_rfl) (by kernel_rfl) (fun a => by kernel_rfl)
/-! loop.example/fossick/spec.CacheGet -/
def s_CacheGet_arg : Sh := ⟨[.agg [.pv (.int .i64), .pv (.int .i64), .pv (.sl (.pair .str (.sl (.pair (.int .i64) (.int .i64)))))], .pv .str, .pv (.int .i64)], []⟩
def s_CacheGet_ret : Sh := ⟨[.tup [.agg [.pv (.int .i64), .pv (.int .i64), .own 1 (.pair .str (.sl (.pair (.int .i64) (.int .i64)))) 46 false], .own 2 (.pair (.int .i64) (.int .i64)) 78 true, .pv .bool]], []⟩
def s_CacheGet_s1 : Sh := ⟨[.dead, .pv .str, .pv (.int .i64), .box 3 0, .dead, .dead, .box 6 0, .dead, .dead, .box 9 0, .pv (.int .i64), .dead, .dead, .dead, .dead, .dead, .dead, .dead, .dead, .dead, .dead, .dead, .dead, .dead, .dead, .dead, .dead, .dead, .dead, .dead, .dead, .dead, .dead, .dead, .dead, .dead, .dead, .dead, .dead, .dead, .dead, .dead, .dead, .dead, .dead, .dead, .dead, .dead, .dead, .dead, .dead, .dead, .dead, .dead, .dead, .dead, .dead, .dead, .dead, .dead, .dead, .dead, .dead, .dead, .dead, .dead], [(3, false, [.pv (.int .i64), .pv (.int .i64), .pv (.sl (.pair .str (.sl (.pair (.int .i64) (.int .i64)))))]), (6, false, [.pv (.int .i64), .pv (.int .i64), .nils]), (9, false, [.pv (.int .i64), .pv (.int .i64), .own 700902 (.pair .str (.sl (.pair (.int .i64) (.int .i64)))) 46 true])]⟩
def s_CacheGet_h : Hint := (.seq .no (.seq .no (.seq .no (.seq (.seq .no (.block (.loop s_CacheGet_s1 .no))) .no))))
def s_CacheGet_m (N : Nat) (c : Int) (c2 : Int) (c3 : List ((List UInt8) × (List (Int × Int)))) (ask : List UInt8) (gen : Int) : Option (Int × Int × (List ((List UInt8) × (List (Int × Int)))) × (List (Int × Int)) × Bool) :=
  (Option.bind (s_l24Ok_m N c c2 c3) fun (r : Bool) =>
    (bif (!r) then
      (some (0, 0, ([] : List ((List UInt8) × (List (Int × Int)))), ([] : List (Int × Int)), false))
      else
      (Option.bind (s_l24Copy_m N c c2 c3) fun (r2 : Int × Int × (List ((List UInt8) × (List (Int × Int))))) =>
        (iter (fun (go : ((List UInt8) × Int × Int × Int × Int × (List ((List UInt8) × (List (Int × Int)))) × Int × Int × Int × Int × (List ((List UInt8) × (List (Int × Int))))) → Option (Int × Int × (List ((List UInt8) × (List (Int × Int)))) × (List (Int × Int)) × Bool)) (g : (List UInt8) × Int × Int × Int × Int × (List ((List UInt8) × (List (Int × Int)))) × Int × Int × Int × Int × (List ((List UInt8) × (List (Int × Int))))) => 
            match g with
            | (ask2, gen2, i, c4, c5, c6, b, b2, out, out2, out3) =>
            (bif (decide (i < (out3.length : Int))) then
              (bif (decide (gen2 = c5)) then
                (Option.bind (idx out3 i) fun (e : (List UInt8) × (List (Int × Int))) =>
                  (bif (decide (e.1 = ask2)) then
                    (Option.bind (idx out3 i) fun (e2 : (List UInt8) × (List (Int × Int))) =>
                      (Option.bind (cut out3 0 i) fun (y : List ((List UInt8) × (List (Int × Int)))) =>
                        (if room ([e2] : List ((List UInt8) × (List (Int × Int)))).length y.length 40 then
                          (if fits (i + 1) then (Option.bind (cut out3 (i + 1) (out3.length : Int)) fun (y2 : List ((List UInt8) × (List (Int × Int)))) =>
                              (if room (([e2] : List ((List UInt8) × (List (Int × Int)))) ++ y).length y2.length 40 then
                                (if room ([] : List (Int × Int)).length e2.2.length 16 then
                                  (some (out, out2, ((([e2] : List ((List UInt8) × (List (Int × Int)))) ++ y) ++ y2), (([] : List (Int × Int)) ++ e2.2), true))
                                  else none)
                                else none)) else none)
                          else none)))
                    else
                    (if fits (i + 1) then (go (ask2, gen2, (i + 1), c4, c5, c6, b, b2, out, out2, out3)) else none)))
                else
                (some (out, out2, out3, ([] : List (Int × Int)), false)))
              else
              (some (out, out2, out3, ([] : List (Int × Int)), false)))) N (ask, gen, 0, c, c2, c3, 0, 0, r2.1, r2.2.1, r2.2.2)))))
def s_CacheGet_M (N : Nat) : Model := ⟨s_CacheGet_arg, s_CacheGet_ret, fun a => s_CacheGet_m N a.1 a.2.1 a.2.2.1 a.2.2.2.1 a.2.2.2.2⟩
set_option maxRecDepth 1000000 in
theorem s_CacheGet_ok (N : Nat) : ModelOk Try.prog 23 (s_CacheGet_M N) :=
  modelOk_of (E := mkEnv [(44, s_l24Ok_M N), (51, s_l24Copy_M N)] [] []) (mkEnv_ok (fnsOk_cons (s_l24Ok_ok N) (fnsOk_cons (s_l24Copy_ok N) fnsOk_nil)) _ _) Try.func23 (by kernel_rfl) rfl N s_CacheGet_h (s_CacheGet_M N) (by kernel_rfl) (by kernel_rfl) (fun a => by kernel_rfl)
/-! loop.example/fossick/laws.FnCacheGet -/
def l_FnCacheGet_arg : Sh := ⟨[.pv (.sl (.int .u8))], []⟩
def l_FnCacheGet_ret : Sh := ⟨[.pv .bool], []⟩
def l_FnCacheGet_s1 : Sh := ⟨[.dead, .dead, .dead, .box 3 0, .pv .str, .pv (.int .i64), .box 6 0, .own 600007 (.pair (.int .i64) (.int .i64)) 78 true, .dead, .dead, .dead, .dead, .own 600012 (.pair .str (.sl (.pair (.int .i64) (.int .i64)))) 46 false, .pv (.int .i64), .dead, .dead, .dead, .dead, .dead, .dead, .dead, .dead, .dead, .dead, .dead, .dead, .dead, .dead, .dead, .dead, .dead, .dead, .dead, .dead, .dead, .dead, .dead, .dead, .dead, .dead, .dead, .dead, .dead, .dead, .dead, .dead, .dead, .dead, .dead, .dead, .dead, .dead, .dead, .dead, .dead, .dead, .dead, .dead, .dead, .dead, .dead, .dead, .dead, .dead, .dead, .dead, .dead, .dead, .dead, .dead, .dead, .dead, .dead, .dead, .dead, .dead, .dead, .dead, .dead, .dead, .dead, .dead, .dead, .dead, .dead, .dead, .dead, .dead, .dead, .dead, .dead, .dead, .dead, .dead, .dead, .dead, .dead, .dead, .dead, .dead, .dead, .dead, .dead, .dead, .dead, .dead, .dead, .dead, .dead, .dead, .dead, .dead, .dead, .dead, .dead, .dead, .dead, .dead, .dead, .dead, .dead, .dead, .dead, .dead, .dead, .dead, .dead, .dead, .dead, .dead, .dead, .dead, .dead, .dead, .dead, .dead, .dead, .dead, .dead, .dead, .dead, .dead, .dead, .dead, .dead, .dead, .dead, .dead, .dead, .dead, .dead, .dead, .dead, .dead, .dead, .dead, .dead], [(3, false, [.pv (.int .i64), .pv (.int .i64), .own 700302 (.pair .str (.sl (.pair (.int .i64) (.int .i64)))) 46 true]), (6, false, [.pv (.int .i64), .pv (.int .i64), .own 700602 (.pair .str (.sl (.pair (.int .i64) (.int .i64)))) 46 true])]⟩
def l_FnCacheGet_h : Hint := (.seq .no (.seq .no (.seq .no (.seq .no (.seq .no (.seq .no (.seq .no (.seq .no (.seq (.seq .no (.block (.loop l_FnCacheGet_s1 .no))) .no)))))))))
def l_FnCacheGet_m (N : Nat) (code : List Int) : Option (Bool) :=
  (bif (decide ((1048576 : Int) < (code.length : Int))) then
    (some true)
    else
    (Option.bind (s_DrawCacheGet_m N code) fun (r : Int × Int × (List ((List UInt8) × (List (Int × Int)))) × (List UInt8) × Int) =>
      (Option.bind (i_CacheGet_m N r.1 r.2.1 r.2.2.1 r.2.2.2.1 r.2.2.2.2) fun (r2 : Int × Int × (List ((List UInt8) × (List (Int × Int)))) × (List (Int × Int)) × Bool) =>
        (Option.bind (s_CacheGet_m N r.1 r.2.1 r.2.2.1 r.2.2.2.1 r.2.2.2.2) fun (r3 : Int × Int × (List ((List UInt8) × (List (Int × Int)))) × (List (Int × Int)) × Bool) =>
          (bif (!(r2.2.2.2.2 == r3.2.2.2.2)) then
            (bif (r2.2.2.2.2 == r3.2.2.2.2) then
              (Option.bind (l_foCache_m N r2.1 r2.2.1 r2.2.2.1 r3.1 r3.2.1 r3.2.2.1) fun (r4 : Bool) =>
                (bif r4 then
                  (Option.bind (l_foHits_m N r2.2.2.2.1 r3.2.2.2.1) fun (r5 : Bool) =>
                    (bif r5 then
                      (Option.bind (i_CacheOk_m N r.1 r.2.1 r.2.2.1) fun (r6 : Bool) =>
                        (Option.bind (s_CacheOk_m N r.1 r.2.1 r.2.2.1) fun (r7 : Bool) =>
                          (some (r6 == r7))))
                      else
                      (some false)))
                  else
                  (some false)))
              else
              (some false))
            else
            (Option.bind (l_foCache_m N r2.1 r2.2.1 r2.2.2.1 r3.1 r3.2.1 r3.2.2.1) fun (r8 : Bool) =>
              (bif (!r8) then
                (bif (r2.2.2.2.2 == r3.2.2.2.2) then
                  (Option.bind (l_foCache_m N r2.1 r2.2.1 r2.2.2.1 r3.1 r3.2.1 r3.2.2.1) fun (r9 : Bool) =>
                    (bif r9 then
                      (Option.bind (l_foHits_m N r2.2.2.2.1 r3.2.2.2.1) fun (r10 : Bool) =>
                        (bif r10 then
                          (Option.bind (i_CacheOk_m N r.1 r.2.1 r.2.2.1) fun (r11 : Bool) =>
                            (Option.bind (s_CacheOk_m N r.1 r.2.1 r.2.2.1) fun (r12 : Bool) =>
                              (some (r11 == r12))))
                          else
                          (some false)))
                      else
                      (some false)))
                  else
                  (some false))
                else
                (Option.bind (l_foHits_m N r2.2.2.2.1 r3.2.2.2.1) fun (r13 : Bool) =>
                  (bif (!r13) then
                    (bif (r2.2.2.2.2 == r3.2.2.2.2) then
                      (Option.bind (l_foCache_m N r2.1 r2.2.1 r2.2.2.1 r3.1 r3.2.1 r3.2.2.1) fun (r14 : Bool) =>
                        (bif r14 then
                          (Option.bind (l_foHits_m N r2.2.2.2.1 r3.2.2.2.1) fun (r15 : Bool) =>
                            (bif r15 then
                              (Option.bind (i_CacheOk_m N r.1 r.2.1 r.2.2.1) fun (r16 : Bool) =>
                                (Option.bind (s_CacheOk_m N r.1 r.2.1 r.2.2.1) fun (r17 : Bool) =>
                                  (some (r16 == r17))))
                              else
                              (some false)))
                          else
                          (some false)))
                      else
                      (some false))
                    else
                    (Option.bind (i_CacheOk_m N r.1 r.2.1 r.2.2.1) fun (r18 : Bool) =>
                      (Option.bind (s_CacheOk_m N r.1 r.2.1 r.2.2.1) fun (r19 : Bool) =>
                        (bif (!(r18 == r19)) then
                          (bif (r2.2.2.2.2 == r3.2.2.2.2) then
                            (Option.bind (l_foCache_m N r2.1 r2.2.1 r2.2.2.1 r3.1 r3.2.1 r3.2.2.1) fun (r20 : Bool) =>
                              (bif r20 then
                                (Option.bind (l_foHits_m N r2.2.2.2.1 r3.2.2.2.1) fun (r21 : Bool) =>
                                  (bif r21 then
                                    (Option.bind (i_CacheOk_m N r.1 r.2.1 r.2.2.1) fun (r22 : Bool) =>
                                      (Option.bind (s_CacheOk_m N r.1 r.2.1 r.2.2.1) fun (r23 : Bool) =>
                                        (some (r22 == r23))))
                                    else
                                    (some false)))
                                else
                                (some false)))
                            else
                            (some false))
                          else
                          (Option.bind (i_CacheOk_m N r.1 r.2.1 r.2.2.1) fun (r24 : Bool) =>
                            (bif (!r24) then
                              (bif (r2.2.2.2.2 == r3.2.2.2.2) then
                                (Option.bind (l_foCache_m N r2.1 r2.2.1 r2.2.2.1 r3.1 r3.2.1 r3.2.2.1) fun (r25 : Bool) =>
                                  (bif r25 then
                                    (Option.bind (l_foHits_m N r2.2.2.2.1 r3.2.2.2.1) fun (r26 : Bool) =>
                                      (bif r26 then
                                        (Option.bind (i_CacheOk_m N r.1 r.2.1 r.2.2.1) fun (r27 : Bool) =>
                                          (Option.bind (s_CacheOk_m N r.1 r.2.1 r.2.2.1) fun (r28 : Bool) =>
                                            (some (r27 == r28))))
                                        else
                                        (some false)))
                                    else
                                    (some false)))
                                else
                                (some false))
                              else
                              (bif (!r2.2.2.2.2) then
                                (Option.bind (l_foCache_m N r2.1 r2.2.1 r2.2.2.1 r.1 r.2.1 r.2.2.1) fun (r29 : Bool) =>
                                  (some r29))
                                else
                                (iter (fun (go : ((List UInt8) × Int × (List (Int × Int)) × (List ((List UInt8) × (List (Int × Int)))) × Int × Int × Int × (List ((List UInt8) × (List (Int × Int)))) × Int × Int × (List ((List UInt8) × (List (Int × Int))))) → Option Bool) (g : (List UInt8) × Int × (List (Int × Int)) × (List ((List UInt8) × (List (Int × Int)))) × Int × Int × Int × (List ((List UInt8) × (List (Int × Int)))) × Int × Int × (List ((List UInt8) × (List (Int × Int))))) => 
                                    match g with
                                    | (ask, gen, hits, few, i, c, c2, c3, x, x2, x3) =>
                                    (bif (decide (i < (c3.length : Int))) then
                                      (Option.bind (idx c3 i) fun (e : (List UInt8) × (List (Int × Int))) =>
                                        (bif (!decide (e.1 = ask)) then
                                          (Option.bind (idx c3 i) fun (e2 : (List UInt8) × (List (Int × Int))) =>
                                            (if room few.length ([e2] : List ((List UInt8) × (List (Int × Int)))).length 40 then
                                              (if fits (i + 1) then (go (ask, gen, hits, (few ++ ([e2] : List ((List UInt8) × (List (Int × Int))))), (i + 1), c, c2, c3, x, x2, x3)) else none)
                                              else none))
                                          else
                                          (if fits (i + 1) then (go (ask, gen, hits, few, (i + 1), c, c2, c3, x, x2, x3)) else none)))
                                      else
                                      (Option.bind (i_CacheGet_m N x x2 x3 ask gen) fun (r30 : Int × Int × (List ((List UInt8) × (List (Int × Int)))) × (List (Int × Int)) × Bool) =>
                                        (Option.bind (i_CacheOk_m N x x2 x3) fun (r31 : Bool) =>
                                          (bif r31 then
                                            (bif r30.2.2.2.2 then
                                              (Option.bind (l_foCache_m N r30.1 r30.2.1 r30.2.2.1 x x2 x3) fun (r32 : Bool) =>
                                                (bif r32 then
                                                  (Option.bind (l_foHits_m N r30.2.2.2.1 hits) fun (r33 : Bool) =>
                                                    (bif r33 then
                                                      (Option.bind (idx x3 0) fun (e3 : (List UInt8) × (List (Int × Int))) =>
                                                        (bif (decide (e3.1 = ask)) then
                                                          (Option.bind (cut x3 1 (x3.length : Int)) fun (y : List ((List UInt8) × (List (Int × Int)))) =>
                                                            (Option.bind (l_foItems_m N y few) fun (r34 : Bool) =>
                                                              (some r34)))
                                                          else
                                                          (some false)))
                                                      else
                                                      (some false)))
                                                  else
                                                  (some false)))
                                              else
                                              (some false))
                                            else
                                            (some false)))))) N (r.2.2.2.1, r.2.2.2.2, r2.2.2.2.1, ([] : List ((List UInt8) × (List (Int × Int)))), 0, r.1, r.2.1, r.2.2.1, r2.1, r2.2.1, r2.2.2.1)))))))))))))))))
def l_FnCacheGet_M (N : Nat) : Model := ⟨l_FnCacheGet_arg, l_FnCacheGet_ret, fun a => l_FnCacheGet_m N a⟩
set_option maxRecDepth 1000000 in
theorem l_FnCacheGet_ok (N : Nat) : ModelOk Try.prog 6 (l_FnCacheGet_M N) :=
  modelOk_of (E := mkEnv [(21, s_DrawCacheGet_M N), (22, i_CacheGet_M N), (23, s_CacheGet_M N), (16, l_foCache_M N), (24, l_foHits_M N), (17, i_CacheOk_M N), (19, s_CacheOk_M N), (25, l_foItems_M N)] [] []) (mkEnv_ok (fnsOk_cons (s_DrawCacheGet_ok N) (fnsOk_cons (i_CacheGet_ok N) (fnsOk_cons (s_CacheGet_ok N) (fnsOk_cons (l_foCache_ok N) (fnsOk_cons (l_foHits_ok N) (fnsOk_cons (i_CacheOk_ok N) (fnsOk_cons (s_CacheOk_ok N) (fnsOk_cons (l_foItems_ok N) fnsOk_nil)))))))) _ _) Try.func6 (by kernel_rfl) rfl N l_FnCacheGet_h (l_FnCacheGet_M N) (by kernel_rfl) (by kernel_rfl) (fun a => by kernel_rfl)
/-! loop.example/fossick/laws.FnExactCacheGet -/
def l_FnExactCacheGet_arg : Sh := ⟨[.agg [.pv (.int .i64), .pv (.int .i64), .pv (.sl (.pair .str (.sl (.pair (.int .i64) (.int .i64)))))], .pv .str, .pv (.int .i64)], []⟩
def l_FnExactCacheGet_ret : Sh := ⟨[.pv .bool], []⟩
def l_FnExactCacheGet_h : Hint := .no
def l_FnExactCacheGet_m (N : Nat) (aC : Int) (aC2 : Int) (aC3 : List ((List UInt8) × (List (Int × Int)))) (aAsk : List UInt8) (aGen : Int) : Option (Bool) :=
  (bif (decide ((1048576 : Int) < (aAsk.length : Int))) then
    (some true)
    else
    (Option.bind (l_szCache_m N aC aC2 aC3 1048576) fun (r : Int) =>
      (bif (decide (r < 0)) then
        (some true)
        else
        (Option.bind (l_toCache_m N aC aC2 aC3) fun (r2 : Int × Int × (List ((List UInt8) × (List (Int × Int))))) =>
          (Option.bind (s_CacheGet_m N r2.1 r2.2.1 r2.2.2 aAsk aGen) fun (r3 : Int × Int × (List ((List UInt8) × (List (Int × Int)))) × (List (Int × Int)) × Bool) =>
            (Option.bind (l_toCache_m N aC aC2 aC3) fun (r4 : Int × Int × (List ((List UInt8) × (List (Int × Int))))) =>
              (Option.bind (i_CacheGet_m N r4.1 r4.2.1 r4.2.2 aAsk aGen) fun (r5 : Int × Int × (List ((List UInt8) × (List (Int × Int)))) × (List (Int × Int)) × Bool) =>
                (Option.bind (l_eqCache_m N r5.1 r5.2.1 r5.2.2.1 r3.1 r3.2.1 r3.2.2.1) fun (r6 : Bool) =>
                  (bif (!r6) then
                    (some false)
                    else
                    (Option.bind (l_eqHitS_m N r5.2.2.2.1 r3.2.2.2.1) fun (r7 : Bool) =>
                      (bif (!r7) then
                        (some false)
                        else
                        (bif (!(r5.2.2.2.2 == r3.2.2.2.2)) then
                          (some false)
                          else
                          (Option.bind (l_toCache_m N aC aC2 aC3) fun (r8 : Int × Int × (List ((List UInt8) × (List (Int × Int))))) =>
                            (Option.bind (l_eqCache_m N r4.1 r4.2.1 r4.2.2 r8.1 r8.2.1 r8.2.2) fun (r9 : Bool) =>
                              (bif (!r9) then
                                (some false)
                                else
                                (Option.bind (l_markCache_m N r4.1 r4.2.1 r4.2.2 1) fun (r10 : Int × (List ((List UInt8) × (List (Int × Int))))) =>
                                  (bif (decide (r10.1 < 0)) then
                                    (some false)
                                    else
                                    (Option.bind (l_eqCache_m N r5.1 r5.2.1 r5.2.2.1 r3.1 r3.2.1 r3.2.2.1) fun (r11 : Bool) =>
                                      (bif (!r11) then
                                        (some false)
                                        else
                                        (Option.bind (l_eqHitS_m N r5.2.2.2.1 r3.2.2.2.1) fun (r12 : Bool) =>
                                          (bif (!r12) then
                                            (some false)
                                            else
                                            (bif (!(r5.2.2.2.2 == r3.2.2.2.2)) then
                                              (some false)
                                              else
                                              (Option.bind (l_markCache_m N r5.1 r5.2.1 r5.2.2.1 1) fun (r13 : Int × (List ((List UInt8) × (List (Int × Int))))) =>
                                                (Option.bind (l_markHitS_m N r5.2.2.2.1 r13.1) fun (r14 : Int × (List (Int × Int))) =>
                                                  (Option.bind (l_heldCache_m N r5.1 r5.2.1 r13.2 1) fun (r15 : Int) =>
                                                    (bif (decide (r15 < 0)) then
                                                      (some false)
                                                      else
                                                      (Option.bind (l_heldHitS_m N r14.2 r15) fun (r16 : Int) =>
                                                        (bif (decide (r16 < 0)) then
                                                          (some false)
                                                          else
                                                          (bif (!decide (r16 = r14.1)) then
                                                            (some false)
                                                            else
                                                            (Option.bind (l_toCache_m N aC aC2 aC3) fun (r17 : Int × Int × (List ((List UInt8) × (List (Int × Int))))) =>
                                                              (Option.bind (i_CacheGet_m N r17.1 r17.2.1 r17.2.2 aAsk aGen) fun (r18 : Int × Int × (List ((List UInt8) × (List (Int × Int)))) × (List (Int × Int)) × Bool) =>
                                                                (Option.bind (l_eqCache_m N r18.1 r18.2.1 r18.2.2.1 r3.1 r3.2.1 r3.2.2.1) fun (r19 : Bool) =>
                                                                  (bif (!r19) then
                                                                    (some false)
                                                                    else
                                                                    (Option.bind (l_eqHitS_m N r18.2.2.2.1 r3.2.2.2.1) fun (r20 : Bool) =>
                                                                      (bif (!r20) then
                                                                        (some false)
                                                                        else
                                                                        (bif (!(r18.2.2.2.2 == r3.2.2.2.2)) then
                                                                          (some false)
                                                                          else
                                                                          (Option.bind (l_heldCache_m N r5.1 r5.2.1 r13.2 1) fun (r21 : Int) =>
                                                                            (bif (decide (r21 < 0)) then
                                                                              (some false)
                                                                              else
                                                                              (Option.bind (l_heldHitS_m N r14.2 r21) fun (r22 : Int) =>
                                                                                (bif (decide (r22 < 0)) then
                                                                                (some false)
                                                                                else
                                                                                (bif (!decide (r22 = r14.1)) then
                                                                                (some false)
                                                                                else
                                                                                (some true))))))))))))))))))))))))))))))))))))))))))
def l_FnExactCacheGet_M (N : Nat) : Model := ⟨l_FnExactCacheGet_arg, l_FnExactCacheGet_ret, fun a => l_FnExactCacheGet_m N a.1 a.2.1 a.2.2.1 a.2.2.2.1 a.2.2.2.2⟩
set_option maxRecDepth 1000000 in
theorem l_FnExactCacheGet_ok (N : Nat) : ModelOk Try.prog 7 (l_FnExactCacheGet_M N) :=
  modelOk_of (E := mkEnv [(18, l_szCache_M N), (20, l_toCache_M N), (23, s_CacheGet_M N), (22, i_CacheGet_M N), (12, l_eqCache_M N), (26, l_eqHitS_M N), (13, l_markCache_M N), (27, l_markHitS_M N), (14, l_heldCache_M N), (28, l_heldHitS_M N)] [] [] [31, 39, 44, 50, 55, 65, 66, 76, 82, 98, 103, 111, 114, 120, 125, 135, 140]) (mkEnv_ok (fnsOk_cons (l_szCache_ok N) (fnsOk_cons (l_toCache_ok N) (fnsOk_cons (s_CacheGet_ok N) (fnsOk_cons (i_CacheGet_ok N) (fnsOk_cons (l_eqCache_ok N) (fnsOk_cons (l_eqHitS_ok N) (fnsOk_cons (l_markCache_ok N) (fnsOk_cons (l_markHitS_ok N) (fnsOk_cons (l_heldCache_ok N) (fnsOk_cons (l_heldHitS_ok N) fnsOk_nil)))))))))) _ _ _) Try.func7 (by kernel_rfl) rfl N l_FnExactCacheGet_h (l_FnExactCacheGet_M N) (by kernel_rfl) (by kernel_rfl) (fun a => by kernel_rfl)
/-! loop.example/fossick/spec.l30AnyHits -/
def s_l30AnyHits_arg : Sh := ⟨[.box 900000 0], [(900000, false, [.pv (.sl (.int .u8)), .pv (.int .i64)])]⟩
def s_l30AnyHits_ret : Sh := ⟨[.own 1 (.pair (.int .i64) (.int .i64)) 78 true], [(900000, false, [.pv (.sl (.int .u8)), .pv (.int .i64)])]⟩
def s_l30AnyHits_h : Hint := .no
def s_l30AnyHits_m (N : Nat) (b : List Int) (b2 : Int) : Option ((List (Int × Int)) × (List Int) × Int) :=
  (Option.bind (s_l30Hits_m N b b2) fun (r : (List (Int × Int)) × (List Int) × Int) =>
    (bif (decide ((0 : Int) < (r.1.length : Int))) then
      (Option.bind (s_l30Rd_pick_m N 10 r.2.1 r.2.2) fun (r2 : Int × (List Int) × Int) =>
        (bif (decide (r2.1 = 0)) then
          (Option.bind (idx r.1 0) fun (e : Int × Int) =>
            (if room r.1.length ([e] : List (Int × Int)).length 16 then
              (some ((r.1 ++ ([e] : List (Int × Int))), r2.2.1, r2.2.2))
              else none))
          else
          (if room ([] : List (Int × Int)).length r.1.length 16 then
            (some ((([] : List (Int × Int)) ++ r.1), r2.2.1, r2.2.2))
            else none)))
      else
      (if room ([] : List (Int × Int)).length r.1.length 16 then
        (some ((([] : List (Int × Int)) ++ r.1), r.2.1, r.2.2))
        else none)))
def s_l30AnyHits_M (N : Nat) : Model := ⟨s_l30AnyHits_arg, s_l30AnyHits_ret, fun a => s_l30AnyHits_m N a.1 a.2⟩
set_option maxRecDepth 1000000 in
theorem s_l30AnyHits_ok (N : Nat) : ModelOk Try.prog 53 (s_l30AnyHits_M N) :=
  modelOk_of (E := mkEnv [(62, s_l30Hits_M N), (47, s_l30Rd_pick_M N)] [] [900000]) (mkEnv_ok (fnsOk_cons (s_l30Hits_ok N) (fnsOk_cons (s_l30Rd_pick_ok N) fnsOk_nil)) _ _) Try.func53 (by kernel_rfl) rfl N s_l30AnyHits_h (s_l30AnyHits_M N) (by kernel_rfl) (by kernel_rfl) (fun a => by kernel_rfl)
/-! loop.example/fossick/spec.DrawCachePut -/
def s_DrawCachePut_arg : Sh := ⟨[.pv (.sl (.int .u8))], []⟩
def s_DrawCachePut_ret : Sh := ⟨[.tup [.agg [.pv (.int .i64), .pv (.int .i64), .own 1 (.pair .str (.sl (.pair (.int .i64) (.int .i64)))) 46 true], .pv .str, .pv (.int .i64), .own 2 (.pair (.int .i64) (.int .i64)) 78 true]], []⟩
def s_DrawCachePut_s1 : Sh := ⟨[.dead, .dead, .box 2 0, .dead, .dead, .dead, .box 11010 0, .box 7 0, .pv .str, .dead, .dead, .dead, .dead, .dead, .dead, .dead, .dead, .dead, .dead, .dead, .dead, .dead, .dead, .dead, .dead, .dead, .dead, .dead, .dead, .dead], [(2, false, [.pv (.int .i64), .pv (.int .i64), .nils]), (7, false, [.pv (.int .i64), .pv (.int .i64), .own 13001 (.pair .str (.sl (.pair (.int .i64) (.int .i64)))) 46 true]), (11010, false, [.pv (.sl (.int .u8)), .pv (.int .i64)])]⟩
def s_DrawCachePut_h : Hint := (.seq .no (.seq .no (.seq .no (.seq .no (.meet s_DrawCachePut_s1 .no .no)))))
def s_DrawCachePut_m (N : Nat) (code : List Int) : Option (Int × Int × (List ((List UInt8) × (List (Int × Int)))) × (List UInt8) × Int × (List (Int × Int))) :=
  (Option.bind (s_l30Open_m N code) fun (r : (List Int) × Int) =>
    (Option.bind (s_l30Cache_m N r.1 r.2) fun (r2 : Int × Int × (List ((List UInt8) × (List (Int × Int)))) × (List Int) × Int) =>
      (Option.bind (s_l30Leaf_m N r2.2.2.2.1 r2.2.2.2.2) fun (r3 : Int × (List UInt8) × (List (List UInt8)) × Int × Int × (List Int) × Int) =>
        (Option.bind (s_l11Put_m N N r3.1 r3.2.1 r3.2.2.1 r3.2.2.2.1 r3.2.2.2.2.1 ([] : List DQ)) fun (r4 : (List UInt8)) =>
          (meet (fun (g : (List UInt8) × Int × Int × Int × Int × (List ((List UInt8) × (List (Int × Int)))) × (List Int) × Int) => 
              match g with
              | (ask, b, b2, c, c2, c3, b3, b4) =>
              (Option.bind (s_l30Rd_one_m N ([c2, c2, 7, (-1)] : List Int) b3 b4) fun (r6 : Int × (List Int) × Int) =>
                (Option.bind (s_l30AnyHits_m N r6.2.1 r6.2.2) fun (r7 : (List (Int × Int)) × (List Int) × Int) =>
                  (some (c, c2, c3, ask, r6.1, r7.1))))) fun (J : ((List UInt8) × Int × Int × Int × Int × (List ((List UInt8) × (List (Int × Int)))) × (List Int) × Int) → Option (Int × Int × (List ((List UInt8) × (List (Int × Int)))) × (List UInt8) × Int × (List (Int × Int)))) =>
            (Option.bind (s_l30Rd_pick_m N 12 r3.2.2.2.2.2.1 r3.2.2.2.2.2.2) fun (r5 : Int × (List Int) × Int) =>
              (bif (decide (r5.1 = 0)) then
                (J (([] : List UInt8), 0, 0, r2.1, r2.2.1, r2.2.2.1, r5.2.1, r5.2.2))
                else
                (J (r4, 0, 0, r2.1, r2.2.1, r2.2.2.1, r5.2.1, r5.2.2)))))))))
def s_DrawCachePut_M (N : Nat) : Model := ⟨s_DrawCachePut_arg, s_DrawCachePut_ret, fun a => s_DrawCachePut_m N a⟩
set_option maxRecDepth 1000000 in
theorem s_DrawCachePut_ok (N : Nat) : ModelOk Try.prog 29 (s_DrawCachePut_M N) :=
  modelOk_of (E := mkEnv [(40, s_l30Open_M N), (46, s_l30Cache_M N), (49, s_l30Leaf_M N), (48, s_l11Put_M N N), (47, s_l30Rd_pick_M N), (41, s_l30Rd_one_M N), (53, s_l30AnyHits_M N)] [] []) (mkEnv_ok (fnsOk_cons (s_l30Open_ok N) (fnsOk_cons (s_l30Cache_ok N) (fnsOk_cons (s_l30Leaf_ok N) (fnsOk_cons (s_l11Put_ok N N) (fnsOk_cons (s_l30Rd_pick_ok N) (fnsOk_cons (s_l30Rd_one_ok N) (fnsOk_cons (s_l30AnyHits_ok N) fnsOk_nil))))))) _ _) Try.func29 (by kernel_rfl) rfl N s_DrawCachePut_h (s_DrawCachePut_M N) (by kernel_rfl) (by kernel_rfl) (fun a => by kernel_rfl)
/-! loop.example/fossick/impl.CachePut -/
def i_CachePut_arg : Sh := ⟨[.agg [.pv (.int .i64), .pv (.int .i64), .pv (.sl (.pair .str (.sl (.pair (.int .i64) (.int .i64)))))], .pv .str, .pv (.int .i64), .pv (.sl (.pair (.int .i64) (.int .i64)))], []⟩
def i_CachePut_ret : Sh := ⟨[.agg [.pv (.int .i64), .pv (.int .i64), .own 1 (.pair .str (.sl (.pair (.int .i64) (.int .i64)))) 46 true]], []⟩
def i_CachePut_s1 : Sh := ⟨[.dead, .dead, .pv (.int .i64), .dead, .box 4 0, .dead, .dead, .dead, .box 8 0, .own 56 (.pair .str (.sl (.pair (.int .i64) (.int .i64)))) 46 true, .dead, .dead, .dead, .dead, .dead, .dead, .dead, .dead, .dead, .dead, .dead, .dead, .dead, .dead, .dead, .dead, .dead, .dead, .dead, .dead, .dead, .dead, .dead, .dead, .dead, .dead, .dead, .dead, .dead, .dead, .dead, .dead, .dead, .dead, .dead, .dead, .dead, .dead, .dead, .dead, .dead, .dead, .dead, .dead, .dead, .dead, .dead, .dead, .dead, .dead, .dead, .dead], [(4, false, [.pv (.int .i64), .pv (.int .i64), .pv (.sl (.pair .str (.sl (.pair (.int .i64) (.int .i64)))))]), (8, false, [.pv (.int .i64), .pv (.int .i64), .nils])]⟩
def i_CachePut_h : Hint := (.seq .no (.seq .no (.seq .no (.seq .no (.meet i_CachePut_s1 .no .no)))))
def i_CachePut_m (N : Nat) (c : Int) (c2 : Int) (c3 : List ((List UInt8) × (List (Int × Int)))) (ask : List UInt8) (gen : Int) (hits : List (Int × Int)) : Option (Int × Int × (List ((List UInt8) × (List (Int × Int))))) :=
  (Option.bind (i_CacheOk_m N c c2 c3) fun (r : Bool) =>
    (bif (!r) then
      (some (0, 0, ([] : List ((List UInt8) × (List (Int × Int))))))
      else
      (bif (decide (ask = ([] : List UInt8))) then
        (Option.bind (i_Cache_without_m N c c2 c3 ([] : List UInt8)) fun (r2 : (List ((List UInt8) × (List (Int × Int))))) =>
          (some (c, c2, r2)))
        else
        (Option.bind (i_within_m N gen 0 999999999) fun (r3 : Bool) =>
          (bif (!r3) then
            (Option.bind (i_Cache_without_m N c c2 c3 ([] : List UInt8)) fun (r4 : (List ((List UInt8) × (List (Int × Int))))) =>
              (some (c, c2, r4)))
            else
            (Option.bind (i_HitsOk_m N hits) fun (r5 : Bool) =>
              (bif (!r5) then
                (Option.bind (i_Cache_without_m N c c2 c3 ([] : List UInt8)) fun (r6 : (List ((List UInt8) × (List (Int × Int))))) =>
                  (some (c, c2, r6)))
                else
                (if room ([] : List (Int × Int)).length hits.length 16 then
                  (meet (fun (g : Int × (List ((List UInt8) × (List (Int × Int)))) × Int × Int × (List ((List UInt8) × (List (Int × Int)))) × Int × Int) => 
                      match g with
                      | (gen2, items, c4, c5, c6, b, b2) =>
                      (some (c4, gen2, items))) fun (J : (Int × (List ((List UInt8) × (List (Int × Int)))) × Int × Int × (List ((List UInt8) × (List (Int × Int)))) × Int × Int) → Option (Int × Int × (List ((List UInt8) × (List (Int × Int)))))) =>
                    (bif (decide (gen = c2)) then
                      (Option.bind (i_Cache_without_m N c c2 c3 ask) fun (r7 : (List ((List UInt8) × (List (Int × Int))))) =>
                        (if fits (c - 1) then (Option.bind (cut r7 0 (if (c - 1) < (r7.length : Int) then (c - 1) else (r7.length : Int))) fun (y : List ((List UInt8) × (List (Int × Int)))) =>
                            (if room ([(ask, (([] : List (Int × Int)) ++ hits))] : List ((List UInt8) × (List (Int × Int)))).length y.length 40 then
                              (J (gen, (([(ask, (([] : List (Int × Int)) ++ hits))] : List ((List UInt8) × (List (Int × Int)))) ++ y), c, c2, c3, 0, 0))
                              else none)) else none))
                      else
                      (J (gen, ([(ask, (([] : List (Int × Int)) ++ hits))] : List ((List UInt8) × (List (Int × Int)))), c, c2, c3, 0, 0))))
                  else none))))))))
def i_CachePut_M (N : Nat) : Model := ⟨i_CachePut_arg, i_CachePut_ret, fun a => i_CachePut_m N a.1 a.2.1 a.2.2.1 a.2.2.2.1 a.2.2.2.2.1 a.2.2.2.2.2⟩
set_option maxRecDepth 1000000 in
theorem i_CachePut_ok (N : Nat) : ModelOk Try.prog 30 (i_CachePut_M N) :=
  modelOk_of (E := mkEnv [(17, i_CacheOk_M N), (50, i_Cache_without_M N), (36, i_within_M N), (32, i_HitsOk_M N)] [55] []) (mkEnv_ok (fnsOk_cons (i_CacheOk_ok N) (fnsOk_cons (i_Cache_without_ok N) (fnsOk_cons (i_within_ok N) (fnsOk_cons (i_HitsOk_ok N) fnsOk_nil)))) _ _) Try.func30 (by kernel_rfl) rfl N i_CachePut_h (i_CachePut_M N) (by kernel_rfl) (by kernel_rfl) (fun a => by kernel_rfl)
/-! loop.example/fossick/laws.FnCachePut -/
def l_FnCachePut_arg : Sh := ⟨[.pv (.sl (.int .u8))], []⟩
def l_FnCachePut_ret : Sh := ⟨[.pv .bool], []⟩
def l_FnCachePut_s1 : Sh := ⟨[.dead, .dead, .dead, .box 3 0, .dead, .pv (.int .i64), .own 600006 (.pair (.int .i64) (.int .i64)) 78 true, .box 7 0, .dead, .own 600009 (.pair (.int .i64) (.int .i64)) 78 true, .pv .bool, .dead, .dead, .pv .bool, .pv (.int .i64), .dead, .dead, .dead, .dead, .dead, .dead, .dead, .dead, .dead, .dead, .dead, .dead, .dead, .dead, .dead, .dead, .dead, .dead, .dead, .dead, .dead, .dead, .dead, .dead, .dead, .dead, .dead, .dead, .dead, .dead, .dead, .dead, .dead, .dead, .dead, .dead, .dead, .dead, .dead, .dead, .dead, .dead, .dead, .dead, .dead, .dead, .dead, .dead, .dead, .dead, .dead, .dead, .dead, .dead, .dead, .dead, .dead, .dead, .dead, .dead, .dead, .dead, .dead, .dead, .dead, .dead, .dead, .dead, .dead, .dead, .dead, .dead, .dead, .dead, .dead, .dead, .dead, .dead, .dead, .dead, .dead, .dead, .dead, .dead, .dead, .dead, .dead, .dead, .dead, .dead, .dead, .dead, .dead, .dead, .dead, .dead, .dead, .dead, .dead, .dead, .dead, .dead, .dead, .dead, .dead, .dead, .dead, .dead, .dead, .dead, .dead, .dead, .dead, .dead, .dead, .dead, .dead, .dead, .dead, .dead, .dead, .dead], [(3, false, [.pv (.int .i64), .pv (.int .i64), .own 700302 (.pair .str (.sl (.pair (.int .i64) (.int .i64)))) 46 true]), (7, false, [.pv (.int .i64), .pv (.int .i64), .own 700702 (.pair .str (.sl (.pair (.int .i64) (.int .i64)))) 46 true])]⟩
def l_FnCachePut_h : Hint := (.seq .no (.seq .no (.seq .no (.seq .no (.seq .no (.seq .no (.seq .no (.seq .no (.seq (.seq .no (.block (.loop l_FnCachePut_s1 .no))) .no)))))))))
def l_FnCachePut_m (N : Nat) (code : List Int) : Option (Bool) :=
  (bif (decide ((1048576 : Int) < (code.length : Int))) then
    (some true)
    else
    (Option.bind (s_DrawCachePut_m N code) fun (r : Int × Int × (List ((List UInt8) × (List (Int × Int)))) × (List UInt8) × Int × (List (Int × Int))) =>
      (Option.bind (i_CachePut_m N r.1 r.2.1 r.2.2.1 r.2.2.2.1 r.2.2.2.2.1 r.2.2.2.2.2) fun (r2 : Int × Int × (List ((List UInt8) × (List (Int × Int))))) =>
        (Option.bind (s_CachePut_m N r.1 r.2.1 r.2.2.1 r.2.2.2.1 r.2.2.2.2.1 r.2.2.2.2.2) fun (r3 : Int × Int × (List ((List UInt8) × (List (Int × Int))))) =>
          (Option.bind (l_foCache_m N r2.1 r2.2.1 r2.2.2 r3.1 r3.2.1 r3.2.2) fun (r4 : Bool) =>
            (bif (!r4) then
              (Option.bind (s_CachePut_m N r.1 r.2.1 r.2.2.1 r.2.2.2.1 r.2.2.2.2.1 r.2.2.2.2.2) fun (r5 : Int × Int × (List ((List UInt8) × (List (Int × Int))))) =>
                (Option.bind (l_foCache_m N r2.1 r2.2.1 r2.2.2 r5.1 r5.2.1 r5.2.2) fun (r6 : Bool) =>
                  (some r6)))
              else
              (Option.bind (i_CacheOk_m N r.1 r.2.1 r.2.2.1) fun (r7 : Bool) =>
                (bif (!r7) then
                  (Option.bind (s_CachePut_m N r.1 r.2.1 r.2.2.1 r.2.2.2.1 r.2.2.2.2.1 r.2.2.2.2.2) fun (r8 : Int × Int × (List ((List UInt8) × (List (Int × Int))))) =>
                    (Option.bind (l_foCache_m N r2.1 r2.2.1 r2.2.2 r8.1 r8.2.1 r8.2.2) fun (r9 : Bool) =>
                      (some r9)))
                  else
                  (bif (decide (r.2.2.2.1 = ([] : List UInt8))) then
                    (Option.bind (l_foCache_m N r2.1 r2.2.1 r2.2.2 r.1 r.2.1 r.2.2.1) fun (r10 : Bool) =>
                      (some r10))
                    else
                    (bif (decide (r.2.2.2.2.1 < 0)) then
                      (Option.bind (l_foCache_m N r2.1 r2.2.1 r2.2.2 r.1 r.2.1 r.2.2.1) fun (r11 : Bool) =>
                        (some r11))
                      else
                      (Option.bind (i_HitsOk_m N r.2.2.2.2.2) fun (r12 : Bool) =>
                        (bif (!r12) then
                          (Option.bind (l_foCache_m N r2.1 r2.2.1 r2.2.2 r.1 r.2.1 r.2.2.1) fun (r13 : Bool) =>
                            (some r13))
                          else
                          (Option.bind (i_CacheGet_m N r2.1 r2.2.1 r2.2.2 r.2.2.2.1 r.2.2.2.2.1) fun (r14 : Int × Int × (List ((List UInt8) × (List (Int × Int)))) × (List (Int × Int)) × Bool) =>
                            (if fits (r.2.2.2.2.1 + 1) then (Option.bind (i_CacheGet_m N r2.1 r2.2.1 r2.2.2 r.2.2.2.1 (r.2.2.2.2.1 + 1)) fun (r15 : Int × Int × (List ((List UInt8) × (List (Int × Int)))) × (List (Int × Int)) × Bool) =>
                                (iter (fun (go : (Int × (List (Int × Int)) × (List (Int × Int)) × Bool × Bool × Int × Int × Int × (List ((List UInt8) × (List (Int × Int)))) × Int × Int × (List ((List UInt8) × (List (Int × Int))))) → Option Bool) (g : Int × (List (Int × Int)) × (List (Int × Int)) × Bool × Bool × Int × Int × Int × (List ((List UInt8) × (List (Int × Int)))) × Int × Int × (List ((List UInt8) × (List (Int × Int))))) => 
                                    match g with
                                    | (gen, hits, got, ok, other, i, c, c2, c3, x, x2, x3) =>
                                    (bif (decide (i < (x3.length : Int))) then
                                      (Option.bind (idx x3 i) fun (e : (List UInt8) × (List (Int × Int))) =>
                                        (Option.bind (i_CacheGet_m N c c2 c3 e.1 gen) fun (r16 : Int × Int × (List ((List UInt8) × (List (Int × Int)))) × (List (Int × Int)) × Bool) =>
                                          (bif (!r16.2.2.2.2) then
                                            (some false)
                                            else
                                            (Option.bind (idx x3 i) fun (e2 : (List UInt8) × (List (Int × Int))) =>
                                              (Option.bind (l_foHits_m N r16.2.2.2.1 e2.2) fun (r17 : Bool) =>
                                                (bif (!r17) then
                                                  (some false)
                                                  else
                                                  (if fits (i + 1) then (go (gen, hits, got, ok, other, (i + 1), c, c2, c3, x, x2, x3)) else none)))))))
                                      else
                                      (Option.bind (i_CacheOk_m N x x2 x3) fun (r18 : Bool) =>
                                        (bif r18 then
                                          (bif ok then
                                            (Option.bind (l_foHits_m N got hits) fun (r19 : Bool) =>
                                              (bif r19 then
                                                (bif (!other) then
                                                  (some (decide (x2 = gen)))
                                                  else
                                                  (some false))
                                                else
                                                (some false)))
                                            else
                                            (some false))
                                          else
                                          (some false))))) N (r.2.2.2.2.1, r.2.2.2.2.2, r14.2.2.2.1, r14.2.2.2.2, r15.2.2.2.2, 1, r.1, r.2.1, r.2.2.1, r2.1, r2.2.1, r2.2.2))) else none))))))))))))))
def l_FnCachePut_M (N : Nat) : Model := ⟨l_FnCachePut_arg, l_FnCachePut_ret, fun a => l_FnCachePut_m N a⟩
set_option maxRecDepth 1000000 in
theorem l_FnCachePut_ok (N : Nat) : ModelOk Try.prog 8 (l_FnCachePut_M N) :=
  modelOk_of (E := mkEnv [(29, s_DrawCachePut_M N), (30, i_CachePut_M N), (31, s_CachePut_M N), (16, l_foCache_M N), (17, i_CacheOk_M N), (32, i_HitsOk_M N), (22, i_CacheGet_M N), (24, l_foHits_M N)] [] []) (mkEnv_ok (fnsOk_cons (s_DrawCachePut_ok N) (fnsOk_cons (i_CachePut_ok N) (fnsOk_cons (s_CachePut_ok N) (fnsOk_cons (l_foCache_ok N) (fnsOk_cons (i_CacheOk_ok N) (fnsOk_cons (i_HitsOk_ok N) (fnsOk_cons (i_CacheGet_ok N) (fnsOk_cons (l_foHits_ok N) fnsOk_nil)))))))) _ _) Try.func8 (by kernel_rfl) rfl N l_FnCachePut_h (l_FnCachePut_M N) (by kernel_rfl) (by kernel_rfl) (fun a => by kernel_rfl)
/-! loop.example/fossick/laws.FnExactCachePut -/
def l_FnExactCachePut_arg : Sh := ⟨[.agg [.pv (.int .i64), .pv (.int .i64), .pv (.sl (.pair .str (.sl (.pair (.int .i64) (.int .i64)))))], .pv .str, .pv (.int .i64), .pv (.sl (.pair (.int .i64) (.int .i64)))], []⟩
def l_FnExactCachePut_ret : Sh := ⟨[.pv .bool], []⟩
def l_FnExactCachePut_h : Hint := .no
def l_FnExactCachePut_m (N : Nat) (aC : Int) (aC2 : Int) (aC3 : List ((List UInt8) × (List (Int × Int)))) (aAsk : List UInt8) (aGen : Int) (aHits : List (Int × Int)) : Option (Bool) :=
  (bif (decide ((1048576 : Int) < (aAsk.length : Int))) then
    (some true)
    else
    (Option.bind (l_szCache_m N aC aC2 aC3 1048576) fun (r : Int) =>
      (bif (decide (r < 0)) then
        (some true)
        else
        (Option.bind (l_szHitS_m N aHits r) fun (r2 : Int) =>
          (bif (decide (r2 < 0)) then
            (some true)
            else
            (Option.bind (l_toCache_m N aC aC2 aC3) fun (r3 : Int × Int × (List ((List UInt8) × (List (Int × Int))))) =>
              (Option.bind (l_toHitS_m N aHits) fun (r4 : (List (Int × Int))) =>
                (Option.bind (s_CachePut_m N r3.1 r3.2.1 r3.2.2 aAsk aGen r4) fun (r5 : Int × Int × (List ((List UInt8) × (List (Int × Int))))) =>
                  (Option.bind (l_toCache_m N aC aC2 aC3) fun (r6 : Int × Int × (List ((List UInt8) × (List (Int × Int))))) =>
                    (Option.bind (l_toHitS_m N aHits) fun (r7 : (List (Int × Int))) =>
                      (Option.bind (i_CachePut_m N r6.1 r6.2.1 r6.2.2 aAsk aGen r7) fun (r8 : Int × Int × (List ((List UInt8) × (List (Int × Int))))) =>
                        (Option.bind (l_eqCache_m N r8.1 r8.2.1 r8.2.2 r5.1 r5.2.1 r5.2.2) fun (r9 : Bool) =>
                          (bif (!r9) then
                            (some false)
                            else
                            (Option.bind (l_toCache_m N aC aC2 aC3) fun (r10 : Int × Int × (List ((List UInt8) × (List (Int × Int))))) =>
                              (Option.bind (l_eqCache_m N r6.1 r6.2.1 r6.2.2 r10.1 r10.2.1 r10.2.2) fun (r11 : Bool) =>
                                (bif (!r11) then
                                  (some false)
                                  else
                                  (Option.bind (l_toHitS_m N aHits) fun (r12 : (List (Int × Int))) =>
                                    (Option.bind (l_eqHitS_m N r7 r12) fun (r13 : Bool) =>
                                      (bif (!r13) then
                                        (some false)
                                        else
                                        (Option.bind (l_markCache_m N r6.1 r6.2.1 r6.2.2 1) fun (r14 : Int × (List ((List UInt8) × (List (Int × Int))))) =>
                                          (Option.bind (l_markHitS_m N r7 r14.1) fun (r15 : Int × (List (Int × Int))) =>
                                            (bif (decide (r15.1 < 0)) then
                                              (some false)
                                              else
                                              (Option.bind (l_eqCache_m N r8.1 r8.2.1 r8.2.2 r5.1 r5.2.1 r5.2.2) fun (r16 : Bool) =>
                                                (bif (!r16) then
                                                  (some false)
                                                  else
                                                  (Option.bind (l_markCache_m N r8.1 r8.2.1 r8.2.2 1) fun (r17 : Int × (List ((List UInt8) × (List (Int × Int))))) =>
                                                    (Option.bind (l_heldCache_m N r8.1 r8.2.1 r17.2 1) fun (r18 : Int) =>
                                                      (bif (decide (r18 < 0)) then
                                                        (some false)
                                                        else
                                                        (bif (!decide (r18 = r17.1)) then
                                                          (some false)
                                                          else
                                                          (Option.bind (l_toCache_m N aC aC2 aC3) fun (r19 : Int × Int × (List ((List UInt8) × (List (Int × Int))))) =>
                                                            (Option.bind (l_toHitS_m N aHits) fun (r20 : (List (Int × Int))) =>
                                                              (Option.bind (i_CachePut_m N r19.1 r19.2.1 r19.2.2 aAsk aGen r20) fun (r21 : Int × Int × (List ((List UInt8) × (List (Int × Int))))) =>
                                                                (Option.bind (l_eqCache_m N r21.1 r21.2.1 r21.2.2 r5.1 r5.2.1 r5.2.2) fun (r22 : Bool) =>
                                                                  (bif (!r22) then
                                                                    (some false)
                                                                    else
                                                                    (Option.bind (l_heldCache_m N r8.1 r8.2.1 r17.2 1) fun (r23 : Int) =>
                                                                      (bif (decide (r23 < 0)) then
                                                                        (some false)
                                                                        else
                                                                        (bif (!decide (r23 = r17.1)) then
                                                                          (some false)
                                                                          else
                                                                          (some true)))))))))))))))))))))))))))))))))))))
def l_FnExactCachePut_M (N : Nat) : Model := ⟨l_FnExactCachePut_arg, l_FnExactCachePut_ret, fun a => l_FnExactCachePut_m N a.1 a.2.1 a.2.2.1 a.2.2.2.1 a.2.2.2.2.1 a.2.2.2.2.2⟩
set_option maxRecDepth 1000000 in
theorem l_FnExactCachePut_ok (N : Nat) : ModelOk Try.prog 9 (l_FnExactCachePut_M N) :=
  modelOk_of (E := mkEnv [(18, l_szCache_M N), (33, l_szHitS_M N), (20, l_toCache_M N), (34, l_toHitS_M N), (31, s_CachePut_M N), (30, i_CachePut_M N), (12, l_eqCache_M N), (26, l_eqHitS_M N), (13, l_markCache_M N), (27, l_markHitS_M N), (14, l_heldCache_M N)] [] [] [32, 36, 39, 41, 46, 49, 53, 54, 58, 59, 72, 80, 87, 91, 92, 95, 99]) (mkEnv_ok (fnsOk_cons (l_szCache_ok N) (fnsOk_cons (l_szHitS_ok N) (fnsOk_cons (l_toCache_ok N) (fnsOk_cons (l_toHitS_ok N) (fnsOk_cons (s_CachePut_ok N) (fnsOk_cons (i_CachePut_ok N) (fnsOk_cons (l_eqCache_ok N) (fnsOk_cons (l_eqHitS_ok N) (fnsOk_cons (l_markCache_ok N) (fnsOk_cons (l_markHitS_ok N) (fnsOk_cons (l_heldCache_ok N) fnsOk_nil))))))))))) _ _ _) Try.func9 (by kernel_rfl) rfl N l_FnExactCachePut_h (l_FnExactCachePut_M N) (by kernel_rfl) (by kernel_rfl) (fun a => by kernel_rfl)
end Go.Proofs.Ythodbhjnfeahhaa
