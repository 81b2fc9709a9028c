import Derived.Test.YtfgcmhhacfkhcaaGreatDoorSJ
set_option linter.unusedVariables false
set_option linter.unusedSimpArgs false
namespace Go.Proofs.YtfgcmhhacfkhcaaGreatDoor
open Go.RowKit Go.Proofs.Tryz
variable (N : Nat)
open Option renaming bind -> oB
set_option maxRecDepth 1000000
abbrev Z0 : Type := Int × (List ((List UInt8) × (List UInt8))) × (List ((List UInt8) × Int))
abbrev Z1 : Type := (List UInt8) × (List UInt8) × (List (Int × (List Int)))
abbrev Z2 : Type := List UInt8
abbrev Z3 : Type := (List Z2) × Z2
abbrev Z4 : Type := List (Int × (List Int))
abbrev Z5 : Type := ((List Z0) × (List Z1)) × (List Int)
abbrev Z6 : Type := List (Int × Int)
abbrev Z7 : Type := Option (Bool)
abbrev Z8 : Type := List (Z2 × Int)
abbrev Z9 : Type := List (Z2 × Int)
abbrev Z10 : Type := Option (Int)
abbrev Z11 : Type := Z2 × Int × Int × Int
abbrev Z12 : Type := List (Int × Int)
abbrev Z13 : Type := List (Int × (List Int))
abbrev Z14 : Type := List (Z2 × Z2)
abbrev Z15 : Type := List (Z2 × Z2)
abbrev Z16 : Type := ((List Z2) × (List Z3)) × (List Z0) × (List Z1)
abbrev Z17 : Type := Int × Z2 × (List Z2) × Int × Int × (List DQ)
abbrev Z18 : Type := Int × Z2 × (List Z2) × Int × Int × (List DQ) × Int × Z2 × (List Z2) × Int × Int × (List DQ)
abbrev Z19 : Type := List (List Int)
abbrev Z20 : Type := Option ((List Z0))
abbrev Z21 : Type := Z2 × Z2 × (List Int) × Int × Int × Int
abbrev Z22 : Type := Int × Int × Z2 × (List Z2) × Int × Int × (List DQ) × Bool × Int × Int × Int × Int × Bool × Int × Int
abbrev Z24 : Type := Int × Z2 × (List Z2) × Int × Int × (List DQ) × Int
abbrev bX (a r : List VS) (f : HD (Sh.codes ⟨a, []⟩) -> Option (HD (Sh.codes ⟨r, []⟩))) : Model := ⟨⟨a, []⟩, ⟨r, []⟩, f⟩
abbrev mK := ModelOk Tryz.prog
theorem mO {l : List (Nat × Model)} (hl : jR Tryz.prog l) {f : FuncId} {fn : Func} {c : Code} (hf : Tryz.prog.funcs[f]? = some fn) (hbody : fn.body = some c) (N : Nat) (h : Hint) (m : Model) (wr rs dw : List Nat := [])
  (hname : (fn.name == "runtime.NumGoroutine") = false := by kernel_rfl) (hres : m.arg.names.all (jbC l wr rs dw).res = true := by kernel_rfl) (hlen : Nat.ble m.arg.vals.length fn.ntmps = true := by kernel_rfl)
  (hrun : ∀ a, m.run a = runF N (jbC l wr rs dw) okDraw fn c h m.arg m.ret a := by intro a; kernel_rfl) : ModelOk Tryz.prog f m := modelOk_of (E := jbC l wr rs dw) (jtQ hl wr rs dw) hf hname hbody N h m hres hlen hrun
theorem fC {k : Nat} {m : Model} {l : List (Nat × Model)} (h : ModelOk Tryz.prog k m) (hl : jR Tryz.prog l) : jR Tryz.prog ((k, m) :: l) := jsH h hl
abbrev pI : VS := .pv (.int .i64)
abbrev pS : VS := .pv .str
abbrev pB : VS := .pv .bool
abbrev tI : Tp := .int .i64
abbrev c1A {Y ρ : Type} (f : Y -> ρ) (a : Y) : ρ := f a
abbrev c2A {α0 α1 ρ : Type} (f : α0 -> α1 -> ρ) (a : α0 × α1) : ρ := f a.1 a.2
abbrev c3A {α0 α1 α2 ρ : Type} (f : α0 -> α1 -> α2 -> ρ) (a : α0 × α1 × α2) : ρ := f a.1 a.2.1 a.2.2
abbrev c4A {α0 α1 α2 α3 ρ : Type} (f : α0 -> α1 -> α2 -> α3 -> ρ) (a : α0 × α1 × α2 × α3) : ρ := f a.1 a.2.1 a.2.2.1 a.2.2.2
abbrev c5A {α0 α1 α2 α3 α4 ρ : Type} (f : α0 -> α1 -> α2 -> α3 -> α4 -> ρ) (a : α0 × α1 × α2 × α3 × α4) : ρ := f a.1 a.2.1 a.2.2.1 a.2.2.2.1 a.2.2.2.2
abbrev c6A {α0 α1 α2 α3 α4 α5 ρ : Type} (f : α0 -> α1 -> α2 -> α3 -> α4 -> α5 -> ρ) (a : α0 × α1 × α2 × α3 × α4 × α5) : ρ := f a.1 a.2.1 a.2.2.1 a.2.2.2.1 a.2.2.2.2.1 a.2.2.2.2.2
abbrev c7A {α0 α1 α2 α3 α4 α5 α6 ρ : Type} (f : α0 -> α1 -> α2 -> α3 -> α4 -> α5 -> α6 -> ρ) (a : α0 × α1 × α2 × α3 × α4 × α5 × α6) : ρ := f a.1 a.2.1 a.2.2.1 a.2.2.2.1 a.2.2.2.2.1 a.2.2.2.2.2.1 a.2.2.2.2.2.2
abbrev c9A {α0 α1 α2 α3 α4 α5 α6 α7 α8 ρ : Type} (f : α0 -> α1 -> α2 -> α3 -> α4 -> α5 -> α6 -> α7 -> α8 -> ρ) (a : α0 × α1 × α2 × α3 × α4 × α5 × α6 × α7 × α8) : ρ := f a.1 a.2.1 a.2.2.1 a.2.2.2.1 a.2.2.2.2.1 a.2.2.2.2.2.1 a.2.2.2.2.2.2.1 a.2.2.2.2.2.2.2.1 a.2.2.2.2.2.2.2.2
abbrev c10A {α0 α1 α2 α3 α4 α5 α6 α7 α8 α9 ρ : Type} (f : α0 -> α1 -> α2 -> α3 -> α4 -> α5 -> α6 -> α7 -> α8 -> α9 -> ρ) (a : α0 × α1 × α2 × α3 × α4 × α5 × α6 × α7 × α8 × α9) : ρ := f a.1 a.2.1 a.2.2.1 a.2.2.2.1 a.2.2.2.2.1 a.2.2.2.2.2.1 a.2.2.2.2.2.2.1 a.2.2.2.2.2.2.2.1 a.2.2.2.2.2.2.2.2.1 a.2.2.2.2.2.2.2.2.2
abbrev c11A {α0 α1 α2 α3 α4 α5 α6 α7 α8 α9 α10 ρ : Type} (f : α0 -> α1 -> α2 -> α3 -> α4 -> α5 -> α6 -> α7 -> α8 -> α9 -> α10 -> ρ) (a : α0 × α1 × α2 × α3 × α4 × α5 × α6 × α7 × α8 × α9 × α10) : ρ := f a.1 a.2.1 a.2.2.1 a.2.2.2.1 a.2.2.2.2.1 a.2.2.2.2.2.1 a.2.2.2.2.2.2.1 a.2.2.2.2.2.2.2.1 a.2.2.2.2.2.2.2.2.1 a.2.2.2.2.2.2.2.2.2.1 a.2.2.2.2.2.2.2.2.2.2
abbrev c12A {α0 α1 α2 α3 α4 α5 α6 α7 α8 α9 α10 α11 ρ : Type} (f : α0 -> α1 -> α2 -> α3 -> α4 -> α5 -> α6 -> α7 -> α8 -> α9 -> α10 -> α11 -> ρ) (a : α0 × α1 × α2 × α3 × α4 × α5 × α6 × α7 × α8 × α9 × α10 × α11) : ρ := f a.1 a.2.1 a.2.2.1 a.2.2.2.1 a.2.2.2.2.1 a.2.2.2.2.2.1 a.2.2.2.2.2.2.1 a.2.2.2.2.2.2.2.1 a.2.2.2.2.2.2.2.2.1 a.2.2.2.2.2.2.2.2.2.1 a.2.2.2.2.2.2.2.2.2.2.1 a.2.2.2.2.2.2.2.2.2.2.2
def dz : Nat -> List VS -> List VS
 | 0, l => l
 | n + 1, l => .dead :: dz n l
abbrev Y22 : Tp := .sl tI
abbrev Y21 : Tp := .pair .str .str
abbrev Y20 : Tp := .sl (.pair .str .str)
abbrev Y19 : Tp := .pair (.sl .str) .str
abbrev Y18 : Tp := .pair .str tI
abbrev Y17 : Tp := .sl (.pair (.sl .str) .str)
abbrev Y16 : Tp := .sl (.pair .str tI)
abbrev Y15 : Tp := .pair tI tI
abbrev Y14 : Tp := .pair tI (.sl tI)
abbrev Y13 : Tp := .sl (.pair tI (.sl tI))
abbrev Y8 : Tp := .pair .str (.pair tI (.pair tI tI))
abbrev Y7 : Tp := .pair .str (.pair .str (.sl (.pair tI (.sl tI))))
abbrev Y6 : Tp := .sl (.pair .str (.pair .str (.sl (.pair tI (.sl tI)))))
abbrev Y5 : Tp := .pair tI (.pair (.sl (.pair .str .str)) (.sl (.pair .str tI)))
abbrev Y4 : Tp := .sl (.pair tI (.pair (.sl (.pair .str .str)) (.sl (.pair .str tI))))
abbrev Y3 : Tp := .pair (.sl (.pair tI (.pair (.sl (.pair .str .str)) (.sl (.pair .str tI))))) (.sl (.pair .str (.pair .str (.sl (.pair tI (.sl tI))))))
abbrev Y2 : Tp := .pair (.pair (.sl (.pair tI (.pair (.sl (.pair .str .str)) (.sl (.pair .str tI))))) (.sl (.pair .str (.pair .str (.sl (.pair tI (.sl tI))))))) (.sl tI)
abbrev Y1 : Tp := .sl (.pair (.pair (.sl (.pair tI (.pair (.sl (.pair .str .str)) (.sl (.pair .str tI))))) (.sl (.pair .str (.pair .str (.sl (.pair tI (.sl tI))))))) (.sl tI))
abbrev Y0 : Tp := .pair (.pair (.sl .str) (.sl (.pair (.sl .str) .str))) (.pair (.sl (.pair tI (.pair (.sl (.pair .str .str)) (.sl (.pair .str tI))))) (.sl (.pair .str (.pair .str (.sl (.pair tI (.sl tI)))))))
def jzT : Sh := ⟨[.agg [pI, pS, .pv (.sl .str), pI, pI, .pv (.sl .q)], pI], []⟩
def jAp : Sh := ⟨[pI], []⟩
def jso : Sh := ⟨.pv (.sl .str) :: pI :: dz 3 (pI :: dz 22 []), []⟩
def jbK (c : List Z2) (e : Int) : Z10 :=
 (if fits (e - (c.length : Int)) then bif decide ((e - (c.length : Int)) < 0) then some (-1) else (iter (fun i (d, b, a) => bif decide (a < (d.length : Int)) then oB (idx d a) fun f => (if fits (b - (f.length : Int)) then bif decide ((b - (f.length : Int)) < 0) then some (-1) else (if fits (a + 1) then i (d, (b - (f.length : Int)), (a + 1)) else none) else none) else some b) N (c, (e - (c.length : Int)), (0 : Int))) else none)
theorem jjn : mK 61 (bX [.pv (.sl .str), pI] [pI] (c2A (jbK N))) :=
 mO ja func61 rfl N (.seq .no (.seq .no (.seq .no (.seq (.seq .no (.block (.loop jso .no))) .no)))) _
def jDq : Sh := ⟨[.pv (.sl .q), pI], []⟩
def jCU : Sh := ⟨[pI], []⟩
def jBx : Sh := ⟨.pv (.sl .q) :: pI :: dz 3 (pI :: dz 21 []), []⟩
def jzK (i : Z24 -> Option Int) (c : List DQ) (e : Int) : Z10 :=
 (if fits (e - (c.length : Int)) then bif decide ((e - (c.length : Int)) < 0) then some (-1) else (iter (fun k (d, h, b) => bif decide (b < (d.length : Int)) then oB (idx d b) fun a => (oB (i (a.kind, a.field, a.words, a.lo, a.hi, a.kids, h)) fun f => bif decide (f < 0) then some (-1) else if fits (b + 1) then k (d, f, (b + 1)) else none) else some h) N (c, (e - (c.length : Int)), (0 : Int))) else none)
def jAt (N : Nat) (F : Z24 -> Option Int) : Model := ⟨jDq, jCU, fun a => jzK N F a.1 a.2⟩
theorem jCA (N : Nat) (F : Z24 -> Option Int) (hF : mK 48 ⟨jzT, jAp, F⟩) : mK 125 (jAt N F) :=
 mO (fC hF ja) func125 rfl N (.seq .no (.seq .no (.seq .no (.seq (.seq .no (.block (.loop jBx .no))) .no)))) (jAt N F)
def jGR (N : Nat) : (D : Nat) -> Int -> Z2 -> (List Z2) -> Int -> Int -> (List DQ) -> Int -> Z10
 | 0, _, _, _, _, _, _, _ => none
 | D + 1, a, a2, a3, a4, a5, a6, left =>
 if fits (left - (a2.length : Int)) then bif decide ((left - (a2.length : Int)) < 0) then
 some (-1)
 else
 (oB (jbK N a3 (left - (a2.length : Int))) fun r =>
 bif decide (r < 0) then
 some (-1)
 else
 oB (jzK N (fun a => jGR N D a.1 a.2.1 a.2.2.1 a.2.2.2.1 a.2.2.2.2.1 a.2.2.2.2.2.1 a.2.2.2.2.2.2) a6 r) fun r2 =>
 bif decide (r2 < 0) then
 some (-1)
 else
 some r2) else none
def jya (N D : Nat) : Model := ⟨jzT, jAp, c7A (jGR N D)⟩
theorem jBb (N D : Nat) (ih : mK 48 (jya N D)) : mK 48 (jya N (D + 1)) :=
 mO (fC ih (fC (jjn N) (fC (jCA N _ ih) ja))) func48 rfl N .no (jya N (D + 1))
theorem jzH (N : Nat) : ∀ D, mK 48 (jya N D)
 | 0 => modelOk_none ⟨_, func48, by decide, by kernel_rfl⟩ _ (fun a => rfl)
 | D + 1 => jBb N D (jzH N D)
def jbp (d : List Z2) (b : List UInt8) (c : Int) : Z10 :=
 (oB (jbK N d c) fun a => bif decide (a < 0) then some (-1) else if fits (a - (b.length : Int)) then bif decide ((a - (b.length : Int)) < 0) then some (-1) else (some (a - (b.length : Int))) else none)
theorem jsV : mK 137 (bX [.agg [.pv (.sl .str), pS], pI] [pI] (c3A (jbp N))) :=
 mO (fC (jjn N) ja) func137 rfl N .no _
def jki : Sh := ⟨.pv Y17 :: pI :: dz 3 (pI :: dz 21 []), []⟩
def jc6 (b : List Z3) (d : Int) : Z10 :=
 (if fits (d - (b.length : Int)) then bif decide ((d - (b.length : Int)) < 0) then some (-1) else (iter (fun j (c, f, a) => bif decide (a < (c.length : Int)) then oB (idx c a) fun h => (oB (jbp N h.1 h.2 f) fun e => bif decide (e < 0) then some (-1) else if fits (a + 1) then j (c, e, (a + 1)) else none) else some f) N (b, (d - (b.length : Int)), (0 : Int))) else none)
theorem jkX : mK 62 (bX [.pv Y17, pI] [pI] (c2A (jc6 N))) :=
 mO (fC (jsV N) ja) func62 rfl N (.seq .no (.seq .no (.seq .no (.seq (.seq .no (.block (.loop jki .no))) .no)))) _
def jbD (d : List Z2) (e : List Z3) (c : Int) : Z10 :=
 (oB (jbK N d c) fun b => bif decide (b < 0) then some (-1) else oB (jc6 N e b) fun a => bif decide (a < 0) then some (-1) else some a)
theorem jm8 : mK 9 (bX [.agg [.pv (.sl .str), .pv Y17], pI] [pI] (c3A (jbD N))) :=
 mO (fC (jjn N) (fC (jkX N) ja)) func9 rfl N .no _
def jaN (N : Nat) (b : List UInt8) (c : List UInt8) (a : Int) : Z10 :=
 (if fits (a - (b.length : Int)) then bif decide ((a - (b.length : Int)) < 0) then some (-1) else (if fits ((a - (b.length : Int)) - (c.length : Int)) then bif decide (((a - (b.length : Int)) - (c.length : Int)) < 0) then some (-1) else (some ((a - (b.length : Int)) - (c.length : Int))) else none) else none)
theorem jpy : mK 138 (bX [.agg [pS, pS], pI] [pI] (c3A (jaN N))) :=
 mO ja func138 rfl N .no _
def jms : Sh := ⟨.pv Y20 :: pI :: dz 3 (pI :: dz 21 []), []⟩
def jdb (b : Z15) (d : Int) : Z10 :=
 (if fits (d - (b.length : Int)) then bif decide ((d - (b.length : Int)) < 0) then some (-1) else (iter (fun j (c, f, a) => bif decide (a < (c.length : Int)) then oB (idx c a) fun h => (oB (jaN N h.1 h.2 f) fun e => bif decide (e < 0) then some (-1) else if fits (a + 1) then j (c, e, (a + 1)) else none) else some f) N (b, (d - (b.length : Int)), (0 : Int))) else none)
theorem jns : mK 63 (bX [.pv Y20, pI] [pI] (c2A (jdb N))) :=
 mO (fC (jpy N) ja) func63 rfl N (.seq .no (.seq .no (.seq .no (.seq (.seq .no (.block (.loop jms .no))) .no)))) _
def jaT (N : Nat) (b : List UInt8) (c : Int) (a : Int) : Z10 :=
 (if fits (a - (b.length : Int)) then bif decide ((a - (b.length : Int)) < 0) then some (-1) else (some (a - (b.length : Int))) else none)
theorem joe : mK 139 (bX [.agg [pS, pI], pI] [pI] (c3A (jaT N))) :=
 mO ja func139 rfl N .no _
def jkA : Sh := ⟨.pv Y16 :: pI :: dz 3 (pI :: dz 21 []), []⟩
def jdV (b : Z9) (d : Int) : Z10 :=
 (if fits (d - (b.length : Int)) then bif decide ((d - (b.length : Int)) < 0) then some (-1) else (iter (fun j (c, f, a) => bif decide (a < (c.length : Int)) then oB (idx c a) fun h => (oB (jaT N h.1 h.2 f) fun e => bif decide (e < 0) then some (-1) else if fits (a + 1) then j (c, e, (a + 1)) else none) else some f) N (b, (d - (b.length : Int)), (0 : Int))) else none)
theorem jn5 : mK 64 (bX [.pv Y16, pI] [pI] (c2A (jdV N))) :=
 mO (fC (joe N) ja) func64 rfl N (.seq .no (.seq .no (.seq .no (.seq (.seq .no (.block (.loop jkA .no))) .no)))) _
def jbq (f : Int) (e : Z15) (c : Z9) (d : Int) : Z10 :=
 (oB (jdb N e d) fun b => bif decide (b < 0) then some (-1) else oB (jdV N c b) fun a => bif decide (a < 0) then some (-1) else some a)
theorem jnC : mK 10 (bX [.agg [pI, .pv Y20, .pv Y16], pI] [pI] (c4A (jbq N))) :=
 mO (fC (jns N) (fC (jn5 N) ja)) func10 rfl N .no _
def jAj : Sh := ⟨[.agg [pI, pS, .pv (.sl .str), pI, pI, .pv (.sl .q)]], []⟩
def jAx : Sh := ⟨[.agg [pI, pS, .own 1 .str 9 true, pI, pI, .own 2 .q 70 true]], []⟩
def jqD : Sh := ⟨.pv (.sl .str) :: .dead :: .dead :: .mtk 600003 .str 9 true :: pI :: dz 17 [], []⟩
def jci (b : List Z2) : Option ((List Z2)) :=
 (if (b.length : Int) = (b.length : Int) /\ 0 <= (b.length : Int) /\ (b.length : Int) * 16 <= 140737488355328 /\ (b.length : Int) <= 140737488355328 then iter (fun h (d, c, a) => bif decide (a < (d.length : Int)) then oB (idx d a) fun f => (if 0 <= a /\ a < (c.length : Int) then oB (c[a.toNat]?) fun i => (if fits (a + 1) then h (d, (c.set a.toNat f), (a + 1)) else none) else none) else some c) N (b, (List.replicate (b.length : Int).toNat ([] : List UInt8)), (0 : Int)) else none)
theorem jiJ : mK 71 (bX [.pv (.sl .str)] [.own 1 .str 9 true] (c1A (jci N))) :=
 mO ja func71 rfl N (.seq .no (.seq .no (.seq (.seq .no (.block (.loop jqD .no))) .no))) _ (wr := [7])
def jCM : Sh := ⟨[.pv (.sl .q)], []⟩
def jCG : Sh := ⟨[.own 1 .q 70 true], []⟩
def jBg : Sh := ⟨.pv (.sl .q) :: .dead :: .dead :: .tre 600003 .q 70 :: pI :: dz 18 [], []⟩
def jyE (h : Z17 -> Option Z17) (b : List DQ) : Option ((List DQ)) :=
 (if (b.length : Int) = (b.length : Int) /\ 0 <= (b.length : Int) /\ (b.length : Int) * 88 <= 140737488355328 /\ (b.length : Int) <= 140737488355328 then iter (fun j (f, e, a) => bif decide (a < (f.length : Int)) then oB (idx f a) fun d => (oB (h (d.kind, d.field, d.words, d.lo, d.hi, d.kids)) fun c => if 0 <= a /\ a < (e.length : Int) then oB (e[a.toNat]?) fun k => (if fits (a + 1) then j (f, (e.set a.toNat (DQ.mk c.1 c.2.1 c.2.2.1 c.2.2.2.1 c.2.2.2.2.1 c.2.2.2.2.2)), (a + 1)) else none) else none) else some e) N (b, (List.replicate (b.length : Int).toNat (DQ.mk 0 ([] : List UInt8) ([] : List Z2) 0 0 ([] : List DQ))), (0 : Int)) else none)
def jAb (N : Nat) (F : Z17 -> Option Z17) : Model := ⟨jCM, jCG, fun a => jyE N F a⟩
theorem jAY (N : Nat) (F : Z17 -> Option Z17) (hF : mK 51 ⟨jAj, jAx, F⟩) : mK 130 (jAb N F) :=
 mO (fC hF ja) func130 rfl N (.seq .no (.seq .no (.seq (.seq .no (.block (.loop jBg .no))) .no))) (jAb N F) (wr := [7]) (dw := [20])
def jxF (N : Nat) : (D : Nat) -> Int -> Z2 -> (List Z2) -> Int -> Int -> (List DQ) -> Option Z17
 | 0, _, _, _, _, _, _ => none
 | D + 1, a, a2, a3, a4, a5, a6 =>
 oB (jci N a3) fun r =>
 oB (jyE N (fun a => jxF N D a.1 a.2.1 a.2.2.1 a.2.2.2.1 a.2.2.2.2.1 a.2.2.2.2.2) a6) fun r2 =>
 some (a, a2, r, a4, a5, r2)
def jx7 (N D : Nat) : Model := ⟨jAj, jAx, c6A (jxF N D)⟩
theorem jBK (N D : Nat) (ih : mK 51 (jx7 N D)) : mK 51 (jx7 N (D + 1)) :=
 mO (fC ih (fC (jiJ N) (fC (jAY N _ ih) ja))) func51 rfl N .no (jx7 N (D + 1)) (dw := [12, 22])
theorem jy9 (N : Nat) : ∀ D, mK 51 (jx7 N D)
 | 0 => modelOk_none ⟨_, func51, by decide, by kernel_rfl⟩ _ (fun a => rfl)
 | D + 1 => jBK N D (jy9 N D)
def ja0 (a : List Z2) (b : List UInt8) : Option Z3 :=
 (oB (jci N a) fun c => some (c, b))
theorem jr7 : mK 156 (bX [.agg [.pv (.sl .str), pS]] [.agg [.own 1 .str 9 true, pS]] (c2A (ja0 N))) :=
 mO (fC (jiJ N) ja) func156 rfl N .no _ (dw := [6])
def jos : Sh := ⟨.pv Y17 :: .dead :: .dead :: .tre 600003 Y19 138 :: pI :: dz 18 [], []⟩
def jeh (b : List Z3) : Option ((List Z3)) :=
 (if (b.length : Int) = (b.length : Int) /\ 0 <= (b.length : Int) /\ (b.length : Int) * 40 <= 140737488355328 /\ (b.length : Int) <= 140737488355328 then iter (fun i (d, c, a) => bif decide (a < (d.length : Int)) then oB (idx d a) fun e => (oB (ja0 N e.1 e.2) fun f => if 0 <= a /\ a < (c.length : Int) then oB (c[a.toNat]?) fun j => (if fits (a + 1) then i (d, (c.set a.toNat f), (a + 1)) else none) else none) else some c) N (b, (List.replicate (b.length : Int).toNat (([] : List Z2), ([] : List UInt8))), (0 : Int)) else none)
theorem jqR : mK 72 (bX [.pv Y17] [.own 1 Y19 138 true] (c1A (jeh N))) :=
 mO (fC (jr7 N) ja) func72 rfl N (.seq .no (.seq .no (.seq (.seq .no (.block (.loop jos .no))) .no))) _ (wr := [7]) (dw := [20])
def jad (b : List Z2) (c : List Z3) : Option ((List Z2) × (List Z3)) :=
 (oB (jci N b) fun d => oB (jeh N c) fun a => some (d, a))
theorem jtJ : mK 13 (bX [.agg [.pv (.sl .str), .pv Y17]] [.agg [.own 1 .str 9 true, .own 2 Y19 138 true]] (c2A (jad N))) :=
 mO (fC (jiJ N) (fC (jqR N) ja)) func13 rfl N .no _ (dw := [6, 10])
def jaW (N : Nat) (b : List UInt8) (a : List UInt8) : Option (Z2 × Z2) :=
 (some (b, a))
theorem jlT : mK 157 (bX [.agg [pS, pS]] [.agg [pS, pS]] (c2A (jaW N))) :=
 mO ja func157 rfl N .no _
def jp2 : Sh := ⟨.pv Y20 :: .dead :: .dead :: .mtk 600003 Y21 143 true :: pI :: dz 18 [], []⟩
def jdS (b : Z15) : Option (Z14) :=
 (if (b.length : Int) = (b.length : Int) /\ 0 <= (b.length : Int) /\ (b.length : Int) * 32 <= 140737488355328 /\ (b.length : Int) <= 140737488355328 then iter (fun i (d, c, a) => bif decide (a < (d.length : Int)) then oB (idx d a) fun e => (oB (jaW N e.1 e.2) fun f => if 0 <= a /\ a < (c.length : Int) then oB (c[a.toNat]?) fun j => (if fits (a + 1) then i (d, (c.set a.toNat f), (a + 1)) else none) else none) else some c) N (b, (List.replicate (b.length : Int).toNat (([] : List UInt8), ([] : List UInt8))), (0 : Int)) else none)
theorem jmr : mK 73 (bX [.pv Y20] [.own 1 Y21 143 true] (c1A (jdS N))) :=
 mO (fC (jlT N) ja) func73 rfl N (.seq .no (.seq .no (.seq (.seq .no (.block (.loop jp2 .no))) .no))) _ (wr := [7]) (dw := [20])
def jaX (N : Nat) (b : List UInt8) (a : Int) : Option (Z2 × Int) :=
 (some (b, a))
theorem jnE : mK 158 (bX [.agg [pS, pI]] [.agg [pS, pI]] (c2A (jaX N))) :=
 mO ja func158 rfl N .no _
def jpn : Sh := ⟨.pv Y16 :: .dead :: .dead :: .mtk 600003 Y18 145 true :: pI :: dz 18 [], []⟩
def jd3 (b : Z9) : Option (Z8) :=
 (if (b.length : Int) = (b.length : Int) /\ 0 <= (b.length : Int) /\ (b.length : Int) * 24 <= 140737488355328 /\ (b.length : Int) <= 140737488355328 then iter (fun i (d, c, a) => bif decide (a < (d.length : Int)) then oB (idx d a) fun e => (oB (jaX N e.1 e.2) fun f => if 0 <= a /\ a < (c.length : Int) then oB (c[a.toNat]?) fun j => (if fits (a + 1) then i (d, (c.set a.toNat f), (a + 1)) else none) else none) else some c) N (b, (List.replicate (b.length : Int).toNat (([] : List UInt8), 0)), (0 : Int)) else none)
theorem jqJ : mK 74 (bX [.pv Y16] [.own 1 Y18 145 true] (c1A (jd3 N))) :=
 mO (fC (jnE N) ja) func74 rfl N (.seq .no (.seq .no (.seq (.seq .no (.block (.loop jpn .no))) .no))) _ (wr := [7]) (dw := [20])
def jbv (c : Int) (d : Z15) (a : Z9) : Option Z0 :=
 (oB (jdS N d) fun e => oB (jd3 N a) fun b => some (c, e, b))
theorem jsM : mK 14 (bX [.agg [pI, .pv Y20, .pv Y16]] [.agg [pI, .own 1 Y21 143 true, .own 2 Y18 145 true]] (c3A (jbv N))) :=
 mO (fC (jmr N) (fC (jqJ N) ja)) func14 rfl N .no _ (dw := [9, 13])
def jt (N : Nat) (a : Int) : Z10 :=
 (bif decide ((65 : Int) <= a) then bif decide (a <= 90) then some (IntKind.u8.wrap (a + 32)) else (bif decide ((97 : Int) <= a) then bif decide (a <= 122) then some a else (bif decide ((48 : Int) <= a) then bif decide (a <= 57) then some a else (some 0) else some 0) else bif decide ((48 : Int) <= a) then bif decide (a <= 57) then some a else (some 0) else some 0) else bif decide ((97 : Int) <= a) then bif decide (a <= 122) then some a else (bif decide ((48 : Int) <= a) then bif decide (a <= 57) then some a else (some 0) else some 0) else bif decide ((48 : Int) <= a) then bif decide (a <= 57) then some a else (some 0) else some 0)
theorem jfG : mK 207 (bX [.pv (.int .u8)] [.pv (.int .u8)] (c1A (jt N))) :=
 mO ja func207 rfl N .no _
def jJ (N : Nat) (a : Int) (c : Int) (b : Int) : Z7 :=
 (bif decide (c <= a) then some (decide (a <= b)) else some false)
theorem jcL : mK 112 (bX [pI, pI, pI] [pB] (c3A (jJ N))) :=
 mO ja func112 rfl N .no _
def jr5 : Sh := ⟨pS :: .dead :: .dead :: pI :: dz 23 [], []⟩
def jT (e : List UInt8) : Z7 :=
 (iter (fun k (b, a) => bif decide (a < (b.length : Int)) then oB (idx b a) fun d => (oB (jt N (d.toNat : Int)) fun f => oB (idx b a) fun j => bif !decide (f = (j.toNat : Int)) then some false else oB (idx b a) fun i => bif decide ((i.toNat : Int) = 0) then some false else if fits (a + 1) then k (b, (a + 1)) else none) else oB (jJ N (b.length : Int) 1 12) fun c => some c) N (e, (0 : Int)))
theorem jgp : mK 140 (bX [pS] [pB] (c1A (jT N))) :=
 mO (fC (jfG N) (fC (jcL N) ja)) func140 rfl N (.seq .no (.seq (.seq .no (.block (.loop jr5 .no))) .no)) _
def jxz (N : Nat) (k : Int) (i : List UInt8) (h : List Z2) (c : Int) (d : Int) (a : List DQ) (j : Bool) (f : Bool) (e : Bool) (b : Bool) : Z7 :=
 (bif j then bif f then bif e then bif b then some true else (some (decide ((a.length : Int) = 0))) else (bif decide (c = 0) then bif decide (d = 0) then bif b then some true else (some (decide ((a.length : Int) = 0))) else (some false) else some false) else (bif decide ((h.length : Int) = 0) then bif e then bif b then some true else (some (decide ((a.length : Int) = 0))) else (bif decide (c = 0) then bif decide (d = 0) then bif b then some true else (some (decide ((a.length : Int) = 0))) else (some false) else some false) else some false) else bif decide (i = ([] : List UInt8)) then bif f then bif e then bif b then some true else (some (decide ((a.length : Int) = 0))) else (bif decide (c = 0) then bif decide (d = 0) then bif b then some true else (some (decide ((a.length : Int) = 0))) else (some false) else some false) else (bif decide ((h.length : Int) = 0) then bif e then bif b then some true else (some (decide ((a.length : Int) = 0))) else (bif decide (c = 0) then bif decide (d = 0) then bif b then some true else (some (decide ((a.length : Int) = 0))) else (some false) else some false) else some false) else some false)
theorem jDV : mK 299 (bX [.agg [pI, pS, .pv (.sl .str), pI, pI, .pv (.sl .q)], pB, pB, pB, pB] [pB] (c10A (jxz N))) :=
 mO ja func299 rfl N .no _
def jDt : Sh := ⟨.pv (.sl .str) :: pI :: dz 3 (pI :: dz 16 []), []⟩
def jxL (k : List Z2) (j : Int) : Z7 :=
 (iter (fun i (b, c, a) => bif decide (a < (b.length : Int)) then oB (idx b a) fun h => (oB (jT N h) fun e => bif !e then some false else if fits (a + 1) then i (b, c, (a + 1)) else none) else oB (jJ N (b.length : Int) 1 c) fun d => some d) N (k, j, (0 : Int)))
theorem jDs : mK 300 (bX [.pv (.sl .str), pI] [pB] (c2A (jxL N))) :=
 mO (fC (jgp N) (fC (jcL N) ja)) func300 rfl N (.seq .no (.seq (.seq .no (.block (.loop jDt .no))) .no)) _
def jBL : Sh := ⟨pS :: .dead :: .dead :: pI :: dz 28 [], []⟩
def jyk (f : List UInt8) : Z7 :=
 (iter (fun c (b, a) => bif decide (a < (b.length : Int)) then oB (idx b a) fun e => (bif !decide ((e.toNat : Int) = 42) then oB (idx b a) fun j => (bif !decide ((j.toNat : Int) = 63) then if fits (a + 1) then oB (cut b a (a + 1)) fun k => (oB (jT N k) fun h => bif !h then some false else if fits (a + 1) then c (b, (a + 1)) else none) else none else if fits (a + 1) then c (b, (a + 1)) else none) else if fits (a + 1) then c (b, (a + 1)) else none) else oB (jJ N (b.length : Int) 1 12) fun d => some d) N (f, (0 : Int)))
theorem jC1 : mK 301 (bX [pS] [pB] (c1A (jyk N))) :=
 mO (fC (jgp N) (fC (jcL N) ja)) func301 rfl N (.seq .no (.seq (.seq .no (.block (.loop jBL .no))) .no)) _
def jDP : Sh := ⟨.dead :: .box 1 0 :: .dead :: pI :: dz 4 (pI :: dz 123 (pB :: dz 34 [])), [(1, false, [pI, pS, .pv (.sl .str), pI, pI, .pv (.sl .q)])]⟩
def jyq (a : Int) (c : List UInt8) (b : List Z2) (d : Int) (e : Int) (f : List DQ) : Z7 :=
 (bif decide (a = 1) then oB (jxz N a c b d e f false false false false) fun U => (some U) else bif decide (a = 2) then oB (jxz N a c b d e f true true false false) fun q => (bif q then oB (jT N c) fun A => (bif A then oB (jxL N b 1) fun r => (some r) else some false) else some false) else bif decide (a = 3) then oB (jxz N a c b d e f true true true false) fun B => (bif B then oB (jT N c) fun C => (bif C then oB (jxL N b 4) fun t => (bif t then bif decide ((1 : Int) < b.length) then bif decide (e = 0) then oB (jJ N d 0 5) fun X => (some X) else (some false) else (some false) else some false) else some false) else some false) else bif decide (a = 4) then oB (jxz N a c b d e f true true true false) fun K => (bif K then oB (jT N c) fun z => (bif z then oB (jxL N b 1) fun E => (bif E then bif decide (e = 0) then oB (jJ N d 1 2) fun v => (some v) else (some false) else some false) else some false) else some false) else bif decide (a = 5) then oB (jxz N a c b d e f true true false false) fun y => (bif y then oB (jT N c) fun S => (bif S then bif decide ((b.length : Int) = 1) then oB (idx b 0) fun O => (oB (jyk N O) fun T => bif T then oB (idx b 0) fun D => (oB (jT N D) fun G => some (!G)) else some false) else (some false) else some false) else some false) else bif decide (a = 6) then oB (jxz N a c b d e f true false true false) fun L => (bif L then oB (jT N c) fun R => (bif R then oB (jJ N d 0 999999999) fun x => (bif x then oB (jJ N e d 999999999) fun w => (some w) else some false) else some false) else some false) else meet (fun (V : Int × Int × Bool × Int × Z2 × (List Z2) × Int × Int × (List DQ)) => match V with | (m, p, I, l, k, j, h, i, n) => bif I then oB (jxz N l k j h i n false false false true) fun P => (bif P then oB (jJ N m 2 4) fun Q => (some Q) else some false) else bif decide (p = 9) then oB (jxz N l k j h i n false false false true) fun H => (bif H then some (decide (m = 2)) else some false) else bif decide (p = 10) then oB (jxz N l k j h i n false false true true) fun u => (bif u then bif decide (m = 1) then bif decide (i = 0) then oB (jJ N h 2 9) fun W => (some W) else (some false) else (some false) else some false) else some false) fun o => bif decide (a = 7) then o ((f.length : Int), a, true, a, c, b, d, e, f) else o ((f.length : Int), a, (decide (a = 8)), a, c, b, d, e, f))
theorem jBO : mK 249 (bX [.agg [pI, pS, .pv (.sl .str), pI, pI, .pv (.sl .q)]] [pB] (c6A (jyq N))) :=
 mO (fC (jDV N) (fC (jgp N) (fC (jDs N) (fC (jcL N) (fC (jC1 N) ja))))) func249 rfl N (.seq .no (.seq .no (.seq (.seq .no (.block (.seq .no (.cond .no (.seq .no (.cond .no (.seq .no (.cond .no (.seq .no (.cond .no (.seq .no (.cond .no (.seq .no (.cond .no (.meet jDP .no .no))))))))))))))) .no))) _
def jD7 : Sh := ⟨.dead :: pI :: .box 2 0 :: .dead :: .dead :: pI :: dz 23 [], [(2, false, [pI, pS, .pv (.sl .str), pI, pI, .pv (.sl .q)])]⟩
def jxO (N : Nat) : (D : Nat) -> Int -> Z2 -> (List Z2) -> Int -> Int -> (List DQ) -> Int -> Z7
 | 0, _, _, _, _, _, _, _ => none
 | D + 1, q, q2, q3, q4, q5, q6, deep =>
 bif decide (deep = 0) then
 some false
 else
 oB (jyq N q q2 q3 q4 q5 q6) fun r =>
 bif !r then
 some false
 else
 iter (fun go (g : Int × Int × Int × Z2 × (List Z2) × Int × Int × (List DQ)) =>
 match g with
 | (deep2, i, q7, q8, q9, q10, q11, q12) =>
 bif decide (i < (q12.length : Int)) then
 oB (idx q12 i) fun e =>
 (if fits (deep2 - 1) then oB (jxO N D e.kind e.field e.words e.lo e.hi e.kids (deep2 - 1)) fun r2 =>
 (bif !r2 then
 some false
 else
 if fits (i + 1) then go (deep2, (i + 1), q7, q8, q9, q10, q11, q12) else none) else none)
 else
 some true) N (deep, 0, q, q2, q3, q4, q5, q6)
def jx9 (N D : Nat) : Model := ⟨⟨[.agg [pI, pS, .pv (.sl .str), pI, pI, .pv (.sl .q)], pI], []⟩, ⟨[pB], []⟩, c7A (jxO N D)⟩
theorem jBT (N D : Nat) (ih : mK 184 (jx9 N D)) : mK 184 (jx9 N (D + 1)) :=
 mO (fC ih (fC (jBO N) ja)) func184 rfl N (.seq .no (.seq .no (.seq (.seq .no (.block (.loop jD7 .no))) .no))) (jx9 N (D + 1))
theorem jzV (N : Nat) : ∀ D, mK 184 (jx9 N D)
 | 0 => modelOk_none ⟨_, func184, by decide, by kernel_rfl⟩ _ (fun a => rfl)
 | D + 1 => jBT N D (jzV N D)
def jE5 (c : Int) (f : List UInt8) (h : List Z2) (a : Int) (d : Int) (b : List DQ) : Z7 :=
 (oB (jxO N N c f h a d b 4) fun e => some e)
theorem jBX : mK 111 (bX [.agg [pI, pS, .pv (.sl .str), pI, pI, .pv (.sl .q)]] [pB] (c6A (jE5 N))) :=
 mO (fC (jzV N N) ja) func111 rfl N .no _
def jdI (N : Nat) : Option ((List Z2)) :=
 (some ([([105, 110, 103] : List UInt8), ([101, 100] : List UInt8), ([101, 115] : List UInt8), ([108, 121] : List UInt8), ([115] : List UInt8)] : List Z2))
theorem jkj : mK 271 ⟨⟨[], []⟩, ⟨[.own 1 .str 9 true], []⟩, fun a => jdI N ⟩ :=
 mO ja func271 rfl N .no _
def jl2 : Sh := ⟨pS :: .dead :: .dead :: pI :: dz 30 [], []⟩
def ja6 (f : List UInt8) : Option (Z2) :=
 (iter (fun d (a, b) => oB (jdI N) fun i => bif decide (b < (i.length : Int)) then oB (jdI N) fun e => (oB (idx e b) fun c => if fits ((a.length : Int) - (c.length : Int)) then bif decide ((3 : Int) <= ((a.length : Int) - (c.length : Int))) then oB (cut a ((a.length : Int) - (c.length : Int)) (a.length : Int)) fun k => (bif decide (k = c) then oB (cut a 0 ((a.length : Int) - (c.length : Int))) fun h => (some h) else if fits (b + 1) then d (a, (b + 1)) else none) else (if fits (b + 1) then d (a, (b + 1)) else none) else none) else some a) N (f, (0 : Int)))
theorem jtL : mK 208 (bX [pS] [pS] (c1A (ja6 N))) :=
 mO (fC (jkj N) ja) func208 rfl N (.seq .no (.seq (.seq .no (.block (.loop jl2 .no))) .no)) _
def jto : Sh := ⟨pS :: dz 9 [], []⟩
def jaq (c : List UInt8) : Option (Z2) :=
 (iter (fun d (a : Z2) => let s2 := a; (oB (ja6 N s2) fun e => bif !decide (e = s2) then oB (ja6 N s2) fun b => (d b) else some s2)) N c)
theorem jfZ : mK 141 (bX [pS] [pS] (c1A (jaq N))) :=
 mO (fC (jtL N) ja) func141 rfl N (.seq .no (.seq (.block (.loop jto .no)) .no)) _
def jlY : Sh := ⟨.pv (.sl .str) :: pS :: dz 3 (pI :: dz 12 []), []⟩
def jap (i : List Z2) (d : List UInt8) : Z7 :=
 (iter (fun h (b, c, a) => bif decide (a < (b.length : Int)) then oB (idx b a) fun f => (bif decide (f = c) then some true else if fits (a + 1) then h (b, c, (a + 1)) else none) else some false) N (i, d, (0 : Int)))
theorem jhP : mK 142 (bX [.pv (.sl .str), pS] [pB] (c2A (jap N))) :=
 mO ja func142 rfl N (.seq .no (.seq (.seq .no (.block (.loop jlY .no))) .no)) _
def jrs : Sh := ⟨.dead :: .box 1 0 :: .dead :: pI :: dz 114 [], [(1, false, [.pv (.sl .str), .pv Y17])]⟩
def js0 : Sh := ⟨.dead :: .box 1 0 :: .dead :: .dead :: pI :: dz 113 [], [(1, false, [.pv (.sl .str), .pv Y17])]⟩
def jrc : Sh := ⟨.dead :: .box 1 0 :: .dead :: .dead :: pI :: .box 5 0 :: pI :: dz 111 [], [(1, false, [.pv (.sl .str), .pv Y17]), (5, false, [.pv (.sl .str), pS])]⟩
def jcw (H : List Z2) (D : List Z3) : Z7 :=
 (iter (fun n (a, b, i) => bif decide (a < (b.length : Int)) then oB (idx b a) fun A => (oB (jT N A) fun I => bif !I then some false else bif decide ((0 : Int) < a) then oB (idx b a) fun m => (if fits (a - 1) then oB (idx b (a - 1)) fun o => (bif Op.bytesLess m o || decide (m = o) then some false else if fits (a + 1) then n ((a + 1), b, i) else none) else none) else if fits (a + 1) then n ((a + 1), b, i) else none) else iter (fun B (j, q, f) => bif decide (j < (f.length : Int)) then oB (idx f j) fun r => (iter (fun E (k, d, l, p, c, h) => bif decide (d < (c.length : Int)) then oB (idx c d) fun G => (oB (jT N G) fun u => bif !u then some false else oB (idx c d) fun C => oB (jaq N C) fun K => oB (idx c d) fun y => bif !decide (K = y) then some false else oB (idx c d) fun z => oB (jap N l z) fun v => bif v then some false else if fits (d + 1) then E (k, (d + 1), l, p, c, h) else none) else oB (jJ N (c.length : Int) 1 3) fun t => bif !t then some false else oB (jT N h) fun w => bif !w then some false else oB (jaq N h) fun x => bif !decide (x = h) then some false else if fits (k + 1) then B ((k + 1), l, p) else none) N (j, (0 : Int), q, f, r.1, r.2)) else bif decide ((q.length : Int) <= 6) then some (decide ((f.length : Int) <= 4)) else some false) N ((0 : Int), b, i)) N ((0 : Int), H, D))
theorem jtf : mK 66 (bX [.agg [.pv (.sl .str), .pv Y17]] [pB] (c2A (jcw N))) :=
 mO (fC (jgp N) (fC (jfZ N) (fC (jhP N) (fC (jcL N) ja)))) func66 rfl N (.seq .no (.seq (.seq .no (.block (.loop jrs .no))) (.seq (.seq .no (.block (.loop js0 (.seq .no (.seq (.block (.seq .no (.seq (.seq .no (.block (.loop jrc .no))) .no))) .no))))) .no))) _
def jot : Sh := ⟨pS :: .dead :: .dead :: pI :: dz 19 [], []⟩
def jcu (d : List UInt8) : Z7 :=
 (iter (fun h (b, a) => bif decide (a < (b.length : Int)) then oB (idx b a) fun c => (bif decide ((c.toNat : Int) < 32) then some false else oB (idx b a) fun f => bif decide ((126 : Int) < (f.toNat : Int)) then some false else if fits (a + 1) then h (b, (a + 1)) else none) else some (decide ((b.length : Int) <= 160))) N (d, (0 : Int)))
theorem jpZ : mK 143 (bX [pS] [pB] (c1A (jcu N))) :=
 mO ja func143 rfl N (.seq .no (.seq (.seq .no (.block (.loop jot .no))) .no)) _
def jp0 : Sh := ⟨.dead :: .box 1 0 :: .dead :: pI :: dz 100 [], [(1, false, [pI, .pv Y20, .pv Y16])]⟩
def jtP : Sh := ⟨.dead :: .box 1 0 :: dz 3 (pI :: dz 98 []), [(1, false, [pI, .pv Y20, .pv Y16])]⟩
def jcb (q : Int) (A : Z15) (x : Z9) : Z7 :=
 (iter (fun n (b, j, d, i) => bif decide (b < (d.length : Int)) then oB (idx d b) fun e => (oB (jT N e.1) fun y => bif !y then some false else oB (jcu N e.2) fun t => bif !t then some false else bif decide ((0 : Int) < b) then if fits (b - 1) then oB (idx d (b - 1)) fun l => (bif Op.bytesLess e.1 l.1 || decide (e.1 = l.1) then some false else if fits (b + 1) then n ((b + 1), j, d, i) else none) else none else if fits (b + 1) then n ((b + 1), j, d, i) else none) else iter (fun m (a, h, f, c) => bif decide (a < (c.length : Int)) then oB (idx c a) fun w => (oB (jT N w.1) fun B => bif !B then some false else oB (idx c a) fun z => oB (jJ N z.2 0 999999999) fun u => bif !u then some false else bif decide ((0 : Int) < a) then oB (idx c a) fun p => (if fits (a - 1) then oB (idx c (a - 1)) fun o => (bif Op.bytesLess p.1 o.1 || decide (p.1 = o.1) then some false else if fits (a + 1) then m ((a + 1), h, f, c) else none) else none) else if fits (a + 1) then m ((a + 1), h, f, c) else none) else oB (jJ N h 1 9999) fun r => bif r then oB (jJ N (f.length : Int) 0 3) fun v => (bif v then some (decide ((c.length : Int) <= 3)) else some false) else some false) N ((0 : Int), j, d, i)) N ((0 : Int), q, A, x))
theorem jpD : mK 67 (bX [.agg [pI, .pv Y20, .pv Y16]] [pB] (c3A (jcb N))) :=
 mO (fC (jgp N) (fC (jpZ N) (fC (jcL N) ja))) func67 rfl N (.seq .no (.seq (.seq .no (.block (.loop jp0 .no))) (.seq (.seq .no (.block (.loop jtP .no))) .no))) _
def jl5 : Sh := ⟨.pv (.sl .str) :: pS :: dz 3 (pI :: dz 42 []), []⟩
def s_l7Put_m (t : List Z2) (m : List UInt8) : Option ((List Z2)) :=
 (iter (fun p (a, b, c) => bif decide (c < (a.length : Int)) then oB (idx a c) fun o => (bif Op.bytesLess o b then if fits (c + 1) then p (a, b, (c + 1)) else none else bif decide (c < (a.length : Int)) then oB (idx a c) fun n => (bif decide (n = b) then some a else oB (cut a 0 c) fun f => if room ([] : List Z2).length f.length 16 then if room (([] : List Z2) ++ f).length ([b] : List Z2).length 16 then oB (cut a c (a.length : Int)) fun k => (if room ((([] : List Z2) ++ f) ++ ([b] : List Z2)).length k.length 16 then some (((([] : List Z2) ++ f) ++ ([b] : List Z2)) ++ k) else none) else none else none) else oB (cut a 0 c) fun d => if room ([] : List Z2).length d.length 16 then if room (([] : List Z2) ++ d).length ([b] : List Z2).length 16 then oB (cut a c (a.length : Int)) fun l => (if room ((([] : List Z2) ++ d) ++ ([b] : List Z2)).length l.length 16 then some (((([] : List Z2) ++ d) ++ ([b] : List Z2)) ++ l) else none) else none else none) else bif decide (c < (a.length : Int)) then oB (idx a c) fun q => (bif decide (q = b) then some a else oB (cut a 0 c) fun h => if room ([] : List Z2).length h.length 16 then if room (([] : List Z2) ++ h).length ([b] : List Z2).length 16 then oB (cut a c (a.length : Int)) fun i => (if room ((([] : List Z2) ++ h) ++ ([b] : List Z2)).length i.length 16 then some (((([] : List Z2) ++ h) ++ ([b] : List Z2)) ++ i) else none) else none else none) else oB (cut a 0 c) fun e => if room ([] : List Z2).length e.length 16 then if room (([] : List Z2) ++ e).length ([b] : List Z2).length 16 then oB (cut a c (a.length : Int)) fun j => (if room ((([] : List Z2) ++ e) ++ ([b] : List Z2)).length j.length 16 then some (((([] : List Z2) ++ e) ++ ([b] : List Z2)) ++ j) else none) else none else none) N (t, m, (0 : Int)))
theorem jgt : mK 209 (bX [.pv (.sl .str), pS] [.pv (.sl .str)] (c2A (s_l7Put_m N))) :=
 mO ja func209 rfl N (.seq .no (.seq .no (.seq (.block (.loop jl5 .no)) .no))) _
def joT : Sh := ⟨.pv Y4 :: .dead :: .dead :: .pv (.sl .str) :: pI :: dz 30 [], []⟩
def jkn : Sh := ⟨.pv Y4 :: .dead :: .dead :: .pv (.sl .str) :: pI :: pI :: dz 29 [], []⟩
def s_l7Names_m (k : List Z0) : Option ((List Z2)) :=
 (iter (fun p (i, e, f) => bif decide (f < (i.length : Int)) then iter (fun o (c, h, a, b) => oB (idx c a) fun n => bif decide (b < (n.2.1.length : Int)) then oB (idx c a) fun l => (oB (idx l.2.1 b) fun j => oB (s_l7Put_m N h j.1) fun m => if fits (b + 1) then o (c, m, a, (b + 1)) else none) else if fits (a + 1) then p (c, h, (a + 1)) else none) N (i, e, f, (0 : Int)) else some e) N (k, ([] : List Z2), (0 : Int)))
theorem jlz : mK 144 (bX [.pv Y4] [.pv (.sl .str)] (c1A (s_l7Names_m N))) :=
 mO (fC (jgt N) ja) func144 rfl N (.seq .no (.seq .no (.seq (.seq .no (.block (.loop joT (.seq .no (.seq (.block (.seq .no (.block (.loop jkn .no)))) .no))))) .no))) _
def jl8 : Sh := ⟨.dead :: pS :: .box 2 0 :: .dead :: .dead :: pI :: dz 21 [], [(2, false, [pI, .pv Y20, .pv Y16])]⟩
def s_l6Field_m (d : Int) (m : Z15) (i : Z9) (h : List UInt8) : Option (Z2) :=
 (iter (fun n (c, a, j, b, f) => bif decide (a < (b.length : Int)) then oB (idx b a) fun l => (bif decide (l.1 = c) then oB (idx b a) fun e => (some e.2) else if fits (a + 1) then n (c, (a + 1), j, b, f) else none) else some ([] : List UInt8)) N (h, (0 : Int), d, m, i))
theorem jhA : mK 211 (bX [.agg [pI, .pv Y20, .pv Y16], pS] [pS] (c4A (s_l6Field_m N))) :=
 mO ja func211 rfl N (.seq .no (.seq (.seq .no (.block (.loop jl8 .no))) .no)) _
def jo3 : Sh := ⟨pS :: .dead :: .dead :: .own 600003 Y8 231 true :: pI :: dz 50 [], []⟩
def jm6 : Sh := ⟨pS :: .dead :: .dead :: .own 600003 Y8 231 true :: pI :: .own 600005 (.int .u8) 5 true :: pI :: dz 48 [], []⟩
def jtK : Sh := ⟨pS :: .dead :: .dead :: .own 600003 Y8 231 true :: pI :: .pv (.sl (.int .u8)) :: pI :: dz 48 [], []⟩
def jb3 (z : List UInt8) : Option ((List Z11)) :=
 (iter (fun l (v, r, m) => bif decide (m < (v.length : Int)) then iter (fun B (c, h, a, b, i) => bif decide (a < (c.length : Int)) then oB (idx c a) fun D => (oB (jt N (D.toNat : Int)) fun G => bif !decide (G = 0) then oB (idx c a) fun A => (oB (jt N (A.toNat : Int)) fun p => if room b.length ([p] : List Int).length 1 then if fits (a + 1) then B (c, h, (a + 1), (b ++ ([p] : List Int)), i) else none else none) else meet (fun (d : Z2 × (List Z11) × Int × (List Int) × Int) => match d with | (t, j, f, n, q) => bif decide ((0 : Int) < n.length) then if room j.length ([((bytesOf n), (j.length : Int), q, f)] : List Z11).length 40 then if fits (f + 1) then l (t, (j ++ ([((bytesOf n), (j.length : Int), q, f)] : List Z11)), (f + 1)) else none else none else if fits (f + 1) then l (t, j, (f + 1)) else none) fun x => bif decide ((12 : Int) < b.length) then oB (cut b 0 12) fun C => (x (c, h, a, C, i)) else x (c, h, a, b, i)) else meet (fun (d : Z2 × (List Z11) × Int × (List Int) × Int) => match d with | (w, k, e, o, u) => bif decide ((0 : Int) < o.length) then if room k.length ([((bytesOf o), (k.length : Int), u, e)] : List Z11).length 40 then if fits (e + 1) then l (w, (k ++ ([((bytesOf o), (k.length : Int), u, e)] : List Z11)), (e + 1)) else none else none else if fits (e + 1) then l (w, k, (e + 1)) else none) fun y => bif decide ((12 : Int) < b.length) then oB (cut b 0 12) fun E => (y (c, h, a, E, i)) else y (c, h, a, b, i)) N (v, r, m, ([] : List Int), m) else some r) N (z, ([] : List Z11), (0 : Int)))
theorem jsr : mK 319 (bX [pS] [.own 1 Y8 231 true] (c1A (jb3 N))) :=
 mO (fC (jfG N) ja) func319 rfl N (.seq .no (.seq .no (.seq (.seq .no (.block (.loop jo3 (.seq .no (.seq (.block (.seq .no (.seq .no (.seq (.block (.loop jm6 .no)) (.meet jtK .no .no))))) .no))))) .no))) _
def jmf : Sh := ⟨.dead :: .dead :: .box 2 0 :: .dead :: .dead :: .own 600005 Y18 151 true :: .own 600006 Y8 231 true :: pI :: dz 43 [], [(2, false, [.pv (.sl .str), .pv Y17])]⟩
def jbY (o : List Z2) (n : List Z3) (k : List UInt8) : Option (Z8) :=
 (oB (jb3 N k) fun p => iter (fun h (d, b, a, c, f) => bif decide (a < (b.length : Int)) then oB (idx b a) fun m => (oB (jaq N m.1) fun e => oB (idx b a) fun l => oB (jap N c l.1) fun r => bif !r then oB (jap N c e) fun j => (bif !j then oB (idx b a) fun i => (if room d.length ([(e, i.2.1)] : Z9).length 24 then if fits (a + 1) then h ((d ++ ([(e, i.2.1)] : Z9)), b, (a + 1), c, f) else none else none) else if fits (a + 1) then h (d, b, (a + 1), c, f) else none) else if fits (a + 1) then h (d, b, (a + 1), c, f) else none) else some d) N (([] : Z9), p, (0 : Int), o, n))
theorem jrk : mK 272 (bX [.agg [.pv (.sl .str), .pv Y17], pS] [.own 1 Y18 151 true] (c3A (jbY N))) :=
 mO (fC (jsr N) (fC (jfZ N) (fC (jhP N) ja))) func272 rfl N (.seq .no (.seq .no (.seq .no (.seq (.seq .no (.block (.loop jmf .no))) .no)))) _
def jrL : Sh := ⟨.pv Y16 :: .pv (.sl .str) :: dz 3 (pI :: dz 36 []), []⟩
def jcC (k : Z9) (l : List Z2) : Z7 :=
 (iter (fun j (b, c, a) => bif decide (a < (c.length : Int)) then bif decide ((b.length : Int) <= a) then some false else (oB (idx b a) fun i => oB (idx c a) fun f => bif !decide (i.1 = f) then some false else oB (idx b a) fun e => oB (idx b 0) fun d => if fits (d.2 + a) then bif !decide (e.2 = (d.2 + a)) then some false else (if fits (a + 1) then j (b, c, (a + 1)) else none) else none) else some true) N (k, l, (0 : Int)))
theorem jtg : mK 320 (bX [.pv Y16, .pv (.sl .str)] [pB] (c2A (jcC N))) :=
 mO ja func320 rfl N (.seq .no (.seq (.seq .no (.block (.loop jrL .no))) .no)) _
def jlL : Sh := ⟨.dead :: .pv Y16 :: .box 2 0 :: .dead :: .dead :: pI :: pI :: dz 38 [], [(2, false, [.pv (.sl .str), .pv Y17])]⟩
def jcJ (i : List Z2) (n : List Z3) (o : Z9) : Z10 :=
 (iter (fun e (c, d, a, f, b) => bif decide (a < (b.length : Int)) then oB (idx b a) fun m => (oB (jcC N c m.1) fun k => bif k then bif decide (d < 0) then if fits (a + 1) then e (c, a, (a + 1), f, b) else none else (oB (idx b a) fun j => oB (idx b d) fun h => bif decide ((h.1.length : Int) < (j.1.length : Int)) then if fits (a + 1) then e (c, a, (a + 1), f, b) else none else if fits (a + 1) then e (c, d, (a + 1), f, b) else none) else if fits (a + 1) then e (c, d, (a + 1), f, b) else none) else some d) N (o, ((-1) : Int), (0 : Int), i, n))
theorem jqp : mK 273 (bX [.agg [.pv (.sl .str), .pv Y17], .pv Y16] [pI] (c3A (jcJ N))) :=
 mO (fC (jtg N) ja) func273 rfl N (.seq .no (.seq .no (.seq (.seq .no (.block (.loop jlL .no))) .no))) _
def jnK : Sh := ⟨.dead :: .dead :: .box 2 0 :: .dead :: .dead :: .own 600005 Y18 151 true :: .pv Y16 :: dz 45 [], [(2, false, [.pv (.sl .str), .pv Y17])]⟩
def ja5 (l : List Z2) (i : List Z3) (m : List UInt8) : Option (Z8) :=
 (oB (jbY N l i m) fun p => iter (fun j (c, a, e, b) => bif decide ((0 : Int) < a.length) then oB (jcJ N e b a) fun d => (bif decide (d < 0) then oB (idx a 0) fun h => (if room c.length ([h] : Z9).length 24 then oB (cut a 1 (a.length : Int)) fun n => (j ((c ++ ([h] : Z9)), n, e, b)) else none) else oB (idx b d) fun f => oB (idx a 0) fun k => if room c.length ([(f.2, k.2)] : Z9).length 24 then oB (idx b d) fun q => (oB (cut a (q.1.length : Int) (a.length : Int)) fun o => j ((c ++ ([(f.2, k.2)] : Z9)), o, e, b)) else none) else some c) N (([] : Z9), p, l, i))
theorem jiO : mK 210 (bX [.agg [.pv (.sl .str), .pv Y17], pS] [.own 1 Y18 151 true] (c3A (ja5 N))) :=
 mO (fC (jrk N) (fC (jqp N) ja)) func210 rfl N (.seq .no (.seq .no (.seq .no (.seq (.block (.loop jnK .no)) .no)))) _
def jn9 : Sh := ⟨.dead :: .pv Y4 :: pS :: .box 3 0 :: dz 3 (.pv (.sl .str) :: pI :: dz 31 []), [(3, false, [.pv (.sl .str), .pv Y17])]⟩
def jrT : Sh := ⟨.dead :: .pv Y4 :: pS :: .box 3 0 :: dz 3 (.pv (.sl .str) :: pI :: .own 600009 Y18 151 true :: pI :: dz 29 []), [(3, false, [.pv (.sl .str), .pv Y17])]⟩
def s_l7Terms_m (y : List Z2) (w : List Z3) (x : List Z0) (A : List UInt8) : Option ((List Z2)) :=
 (iter (fun v (f, q, o, b, j, i) => bif decide (b < (f.length : Int)) then oB (idx f b) fun c => (oB (s_l6Field_m N c.1 c.2.1 c.2.2 q) fun z => oB (ja5 N j i z) fun r => iter (fun u (n, m, k, d, h, a, p, l) => bif decide (a < (h.length : Int)) then oB (idx h a) fun t => (oB (s_l7Put_m N k t.1) fun B => if fits (a + 1) then u (n, m, B, d, h, (a + 1), p, l) else none) else if fits (d + 1) then v (n, m, k, (d + 1), p, l) else none) N (f, q, o, b, r, (0 : Int), j, i)) else some o) N (x, A, ([] : List Z2), (0 : Int), y, w))
theorem jqQ : mK 145 (bX [.agg [.pv (.sl .str), .pv Y17], .pv Y4, pS] [.pv (.sl .str)] (c4A (s_l7Terms_m N))) :=
 mO (fC (jhA N) (fC (jiO N) (fC (jgt N) ja))) func145 rfl N (.seq .no (.seq .no (.seq (.seq .no (.block (.loop jn9 (.seq .no (.seq (.block (.seq .no (.seq .no (.block (.loop jrT .no))))) .no))))) .no))) _
def jnY : Sh := ⟨dz 3 (pS :: dz 5 (.own 600009 tI 3 true :: .own 600010 Y18 151 true :: pI :: dz 28 [])), []⟩
def s_l7Post_m (n : List Z2) (l : List Z3) (h : Int) (m : Z15) (o : Z9) (r : List UInt8) (j : List UInt8) : Option ((List Int)) :=
 (oB (s_l6Field_m N h m o r) fun p => oB (ja5 N n l p) fun i => iter (fun f (d, c, b, a) => bif decide (a < (b.length : Int)) then oB (idx b a) fun k => (bif decide (k.1 = d) then oB (idx b a) fun e => (if room c.length ([e.2] : List Int).length 8 then if fits (a + 1) then f (d, (c ++ ([e.2] : List Int)), b, (a + 1)) else none else none) else if fits (a + 1) then f (d, c, b, (a + 1)) else none) else some c) N (j, ([] : List Int), i, (0 : Int)))
theorem js6 : mK 212 (bX [.agg [.pv (.sl .str), .pv Y17], .agg [pI, .pv Y20, .pv Y16], pS, pS] [.own 1 tI 3 true] (c7A (s_l7Post_m N))) :=
 mO (fC (jhA N) (fC (jiO N) ja)) func212 rfl N (.seq .no (.seq .no (.seq .no (.seq (.seq .no (.block (.loop jnY .no))) .no)))) _
def jkw : Sh := ⟨.dead :: .pv Y4 :: pS :: pS :: .box 4 0 :: dz 3 (.box 8 0 :: .box 9 0 :: pI :: dz 34 []), [(4, false, [.pv (.sl .str), .pv Y17]), (8, false, [pS, pS, .nils]), (9, false, [pS, pS, .own 700902 Y14 239 true])]⟩
def s_l7Entry_m (v : List Z2) (t : List Z3) (u : List Z0) (r : List UInt8) (m : List UInt8) : Option Z1 :=
 (iter (fun o (b, l, k, a, f, d, n, p, h, e, c) => bif decide (a < (b.length : Int)) then oB (idx b a) fun j => (oB (s_l7Post_m N f d j.1 j.2.1 j.2.2 l k) fun i => bif decide ((0 : Int) < i.length) then oB (idx b a) fun q => (if room c.length ([(q.1, i)] : Z4).length 32 then if fits (a + 1) then o (b, l, k, (a + 1), f, d, n, p, h, e, (c ++ ([(q.1, i)] : Z4))) else none else none) else if fits (a + 1) then o (b, l, k, (a + 1), f, d, n, p, h, e, c) else none) else some (h, e, c)) N (u, r, m, (0 : Int), v, t, ([] : List UInt8), ([] : List UInt8), r, m, ([] : Z4)))
theorem jtr : mK 146 (bX [.agg [.pv (.sl .str), .pv Y17], .pv Y4, pS, pS] [.agg [pS, pS, .own 1 Y14 239 true]] (c5A (s_l7Entry_m N))) :=
 mO (fC (js6 N) ja) func146 rfl N (.seq .no (.seq .no (.seq (.seq .no (.block (.loop jkw .no))) .no))) _
def s_l7CopyDoc_m (N : Nat) (c : Int) (a : Z15) (b : Z9) : Option Z0 :=
 (if room ([] : Z15).length a.length 32 then if room ([] : Z9).length b.length 24 then some (c, (([] : Z15) ++ a), (([] : Z9) ++ b)) else none else none)
theorem jtC : mK 147 (bX [.agg [pI, .pv Y20, .pv Y16]] [.agg [pI, .own 1 Y21 143 true, .own 2 Y18 145 true]] (c3A (s_l7CopyDoc_m N))) :=
 mO ja func147 rfl N .no _
def jn8 : Sh := ⟨.dead :: .pv Y4 :: .box 2 0 :: .dead :: .box 4 0 :: .box 5 0 :: .pv (.sl .str) :: pI :: dz 58 [], [(2, false, [.pv (.sl .str), .pv Y17]), (4, false, [.nils, .nils]), (5, false, [.nils, .own 700501 Y7 156 true])]⟩
def jpr : Sh := ⟨.dead :: .pv Y4 :: .box 2 0 :: .dead :: .box 4 0 :: .box 5 0 :: .pv (.sl .str) :: pI :: .pv (.sl .str) :: pI :: dz 56 [], [(2, false, [.pv (.sl .str), .pv Y17]), (4, false, [.nils, .nils]), (5, false, [.nils, .own 700501 Y7 156 true])]⟩
def jn0 : Sh := ⟨.dead :: .pv Y4 :: .dead :: .dead :: .box 4 0 :: .box 5 0 :: dz 4 (pI :: dz 55 []), [(4, false, [.nils, .nils]), (5, false, [.own 700500 Y5 44 true, .own 700501 Y7 156 true])]⟩
def s_l7Of_m (I : List Z2) (E : List Z3) (w : List Z0) : Option ((List Z0) × (List Z1)) :=
 (oB (s_l7Names_m N w) fun K => iter (fun D (q, n, e, v, u, t) => bif decide (e < (n.length : Int)) then oB (idx n e) fun C => (oB (s_l7Terms_m N v u q C) fun z => iter (fun B (j, i, b, f, d, k, h, o) => bif decide (d < (f.length : Int)) then oB (idx i b) fun A => (oB (idx f d) fun G => oB (s_l7Entry_m N k h j A G) fun y => if room o.length ([y] : List Z1).length 56 then if fits (d + 1) then B (j, i, b, f, (d + 1), k, h, (o ++ ([y] : List Z1))) else none else none) else if fits (b + 1) then D (j, i, (b + 1), k, h, o) else none) N (q, n, e, z, (0 : Int), v, u, t)) else iter (fun H (p, c, l, x) => bif decide (c < (p.length : Int)) then oB (idx p c) fun m => (oB (s_l7CopyDoc_m N m.1 m.2.1 m.2.2) fun r => if room l.length ([r] : List Z0).length 56 then if fits (c + 1) then H (p, (c + 1), (l ++ ([r] : List Z0)), x) else none else none) else some (l, x)) N (q, (0 : Int), ([] : List Z0), t)) N (w, K, (0 : Int), I, E, ([] : List Z1)))
theorem jmU : mK 68 (bX [.agg [.pv (.sl .str), .pv Y17], .pv Y4] [.agg [.own 1 Y5 44 true, .own 2 Y7 156 true]] (c3A (s_l7Of_m N))) :=
 mO (fC (jlz N) (fC (jqQ N) (fC (jtr N) (fC (jtC N) ja)))) func68 rfl N (.seq .no (.seq .no (.seq .no (.seq (.seq .no (.block (.loop jn8 (.seq .no (.seq (.block (.seq .no (.seq .no (.block (.loop jpr .no))))) .no))))) (.seq (.seq .no (.block (.loop jn0 .no))) .no))))) _
def jyC (a : List Z2) (c : List Z3) (b : List UInt8) : Option (Z2) :=
 (oB (jcw N a c) fun f => bif !f then some ([] : List UInt8) else oB (jT N b) fun e => bif !e then some ([] : List UInt8) else oB (ja5 N a c b) fun d => bif decide ((d.length : Int) = 0) then some ([] : List UInt8) else oB (idx d 0) fun h => some h.1)
theorem jCy : mK 149 (bX [.agg [.pv (.sl .str), .pv Y17], pS] [pS] (c3A (jyC N))) :=
 mO (fC (jtf N) (fC (jgp N) (fC (jiO N) ja))) func149 rfl N .no _
def jtm : Sh := ⟨.dead :: pS :: pS :: .box 3 0 :: dz 3 (pI :: dz 31 []), [(3, false, [.pv Y4, .pv Y6])]⟩
def s_l7Posts_m (j : List Z0) (l : List Z1) (o : List UInt8) (i : List UInt8) : Option (Z13) :=
 (iter (fun f (d, c, a, e, b) => bif decide (a < (b.length : Int)) then oB (idx b a) fun n => (bif decide (n.1 = d) then oB (idx b a) fun k => (bif decide (k.2.1 = c) then oB (idx b a) fun h => (some h.2.2) else if fits (a + 1) then f (d, c, (a + 1), e, b) else none) else if fits (a + 1) then f (d, c, (a + 1), e, b) else none) else some ([] : Z4)) N (o, i, (0 : Int), j, l))
theorem jh6 : mK 217 (bX [.agg [.pv Y4, .pv Y6], pS, pS] [.pv Y13] (c4A (s_l7Posts_m N))) :=
 mO ja func217 rfl N (.seq .no (.seq (.seq .no (.block (.loop jtm .no))) .no)) _
def jst : Sh := ⟨dz 3 (pI :: dz 5 (.pv Y13 :: pI :: dz 22 [])), []⟩
def s_l12At_m (f : List Z0) (j : List Z1) (m : List UInt8) (e : List UInt8) (d : Int) : Option ((List Int)) :=
 (oB (s_l7Posts_m N f j m e) fun i => iter (fun n (c, b, a) => bif decide (a < (b.length : Int)) then oB (idx b a) fun l => (bif decide (l.1 = c) then oB (idx b a) fun h => (some h.2) else if fits (a + 1) then n (c, b, (a + 1)) else none) else some ([] : List Int)) N (d, i, (0 : Int)))
theorem jn1 : mK 213 (bX [.agg [.pv Y4, .pv Y6], pS, pS, pI] [.pv Y22] (c5A (s_l12At_m N))) :=
 mO (fC (jh6 N) ja) func213 rfl N (.seq .no (.seq .no (.seq (.seq .no (.block (.loop jst .no))) .no))) _
def jqS : Sh := ⟨.dead :: pS :: pI :: .box 3 0 :: dz 3 (pI :: pI :: dz 55 []), [(3, false, [.pv Y4, .pv Y6])]⟩
def jm7 : Sh := ⟨.dead :: pS :: pI :: .box 3 0 :: dz 3 (pI :: pI :: pI :: dz 54 []), [(3, false, [.pv Y4, .pv Y6])]⟩
def s_l7Long_m (p : List Z0) (x : List Z1) (B : List UInt8) (v : Int) : Z10 :=
 (iter (fun l (A, z, n, j, w, o) => bif decide (j < (o.length : Int)) then iter (fun k (e, d, f, a, c, h, b) => oB (idx b a) fun r => bif decide (c < (r.2.2.length : Int)) then oB (idx b a) fun q => (bif decide (q.1 = e) then oB (idx b a) fun t => (oB (idx t.2.2 c) fun y => bif decide (y.1 = d) then oB (idx b a) fun u => (oB (idx u.2.2 c) fun m => if fits (f + (m.2.length : Int)) then if fits (c + 1) then k (e, d, (f + (m.2.length : Int)), a, (c + 1), h, b) else none else none) else if fits (c + 1) then k (e, d, f, a, (c + 1), h, b) else none) else if fits (a + 1) then l (e, d, f, (a + 1), h, b) else none) else if fits (a + 1) then l (e, d, f, (a + 1), h, b) else none) N (A, z, n, j, (0 : Int), w, o) else some n) N (B, v, (0 : Int), (0 : Int), p, x))
theorem jrY : mK 215 (bX [.agg [.pv Y4, .pv Y6], pS, pI] [pI] (c4A (s_l7Long_m N))) :=
 mO ja func215 rfl N (.seq .no (.seq .no (.seq (.seq .no (.block (.loop jqS (.seq .no (.seq (.block (.seq .no (.block (.loop jm7 .no)))) .no))))) .no))) _
def jsB : Sh := ⟨.dead :: pS :: .box 2 0 :: .dead :: .dead :: pI :: pI :: dz 43 [], [(2, false, [.pv Y4, .pv Y6])]⟩
def jnl : Sh := ⟨.dead :: pS :: .box 2 0 :: .dead :: .dead :: pI :: pI :: pI :: dz 42 [], [(2, false, [.pv Y4, .pv Y6])]⟩
def s_l12Total_m (n : List Z0) (u : List Z1) (w : List UInt8) : Z10 :=
 (iter (fun j (v, k, i, t, l) => bif decide (i < (l.length : Int)) then iter (fun q (c, e, a, d, h, b) => oB (idx b a) fun p => bif decide (d < (p.2.2.length : Int)) then oB (idx b a) fun o => (bif decide (o.1 = c) then oB (idx b a) fun r => (oB (idx r.2.2 d) fun m => if fits (e + (m.2.length : Int)) then if fits (d + 1) then q (c, (e + (m.2.length : Int)), a, (d + 1), h, b) else none else none) else if fits (a + 1) then j (c, e, (a + 1), h, b) else none) else if fits (a + 1) then j (c, e, (a + 1), h, b) else none) N (v, k, i, (0 : Int), t, l) else some k) N (w, (0 : Int), (0 : Int), n, u))
theorem jn2 : mK 216 (bX [.agg [.pv Y4, .pv Y6], pS] [pI] (c3A (s_l12Total_m N))) :=
 mO ja func216 rfl N (.seq .no (.seq .no (.seq (.seq .no (.block (.loop jsB (.seq .no (.seq (.block (.seq .no (.block (.loop jnl .no)))) .no))))) .no))) _
def jsx : Sh := ⟨pI :: pI :: dz 3 (pI :: dz 13 []), []⟩
def jbz (e : Int) (d : Int) : Z10 :=
 (iter (fun h (a, c, b) => bif decide ((0 : Int) < a) then if fits (a * 2) then bif decide ((a * 2) <= c) then if fits (a * 2) then if fits (b + 1) then h ((a * 2), c, (b + 1)) else none else none else (some b) else none else some b) N (e, d, (0 : Int)))
theorem jkd : mK 275 (bX [pI, pI] [pI] (c2A (jbz N))) :=
 mO ja func275 rfl N (.seq .no (.seq .no (.seq (.block (.loop jsx .no)) .no))) _
def jkC : Sh := ⟨pI :: pI :: dz 15 [], []⟩
def jaY (N : Nat) : (D : Nat) -> Int -> Int -> Z10
 | 0, _, _ => none
 | D + 1, a, b =>
 meet (fun (g : Int × Int) =>
 match g with
 | (a2, b2) =>
 bif decide (b2 = 0) then
 some a2
 else
 if b2 ≠ 0 then
 oB (jaY N D b2 (a2.tmod b2)) fun r =>
 (some r)
 else none) fun J =>
 bif decide (a < 0) then
 if fits (0 - a) then J ((0 - a), b) else none
 else
 J (a, b)
def jcQ (N D : Nat) : Model := ⟨⟨[pI, pI], []⟩, ⟨[pI], []⟩, c2A (jaY N D)⟩
theorem jlI (N D : Nat) (ih : mK 321 (jcQ N D)) : mK 321 (jcQ N (D + 1)) :=
 mO (fC ih ja) func321 rfl N (.seq .no (.meet jkC .no .no)) (jcQ N (D + 1))
theorem jeF (N : Nat) : ∀ D, mK 321 (jcQ N D)
 | 0 => modelOk_none ⟨_, func321, by decide, by kernel_rfl⟩ _ (fun a => rfl)
 | D + 1 => jlI N D (jeF N D)
def jlg : Sh := ⟨pI :: pI :: .dead :: .dead :: .box 4 0 :: dz 17 [], [(4, false, [pI, pI])]⟩
def jcf (d : Int) (b : Int) : Option (Int × Int) :=
 (meet (fun (h : Int × Int × Int × Int) => match h with | (c, e, i, j) => oB (jaY N N c e) fun a => if a ≠ 0 then if fits (c.tdiv a) then if a ≠ 0 then if fits (e.tdiv a) then some ((c.tdiv a), (e.tdiv a)) else none else none else none else none) fun f => bif decide (b < 0) then if fits (0 - d) then if fits (0 - b) then f ((0 - d), (0 - b), 0, 0) else none else none else f (d, b, 0, 0))
theorem jn4 : mK 274 (bX [pI, pI] [.agg [pI, pI]] (c2A (jcf N))) :=
 mO (fC (jeF N N) ja) func274 rfl N (.seq .no (.meet jlg .no .no)) _
def jqT : Sh := ⟨pI :: .dead :: .dead :: pI :: pI :: dz 5 (.box 10 0 :: pI :: dz 21 []), [(10, false, [pI, pI])]⟩
def s_l12Term_m (i : Int) (d : Int) (e : Int) (a : Int) (h : Int) : Option (Int × Int) :=
 (meet (fun (n : Int × Int × Int × Int × Int × Int) => match n with | (b, m, l, j, o, p) => oB (jbz N l m) fun c => if fits (1 + c) then if fits ((1 + c) * 22) then if fits (((1 + c) * 22) * b) then if fits (10 * b) then if fits ((10 * b) + 3) then if fits (((10 * b) + 3) + j) then oB (jcf N (((1 + c) * 22) * b) (((10 * b) + 3) + j)) fun f => (some (f.1, f.2)) else none else none else none else none else none else none) fun k => bif decide ((0 : Int) < e) then if fits (d * a) then if fits ((d * a) * 9) then if e ≠ 0 then if fits (((d * a) * 9).tdiv e) then k (i, a, h, (((d * a) * 9).tdiv e), 0, 0) else none else none else none else none else k (i, a, h, 1, 0, 0))
theorem jtF : mK 214 (bX [pI, pI, pI, pI, pI] [.agg [pI, pI]] (c5A (s_l12Term_m N))) :=
 mO (fC (jkd N) (fC (jn4 N) ja)) func214 rfl N (.seq .no (.seq .no (.meet jqT .no .no))) _
def s_l12Points_m (b : List Z0) (c : List Z1) (d : List UInt8) (f : List UInt8) (e : Int) : Z10 :=
 (oB (s_l12At_m N b c d f e) fun h => bif decide ((h.length : Int) = 0) then some 0 else oB (s_l7Long_m N b c d e) fun i => oB (s_l12Total_m N b c d) fun k => oB (s_l7Posts_m N b c d f) fun j => oB (s_l12Term_m N (h.length : Int) i k (b.length : Int) (j.length : Int)) fun a => if fits (a.1 * 1000) then if a.2 ≠ 0 then if fits ((a.1 * 1000).tdiv a.2) then some ((a.1 * 1000).tdiv a.2) else none else none else none)
theorem jrZ : mK 148 (bX [.agg [.pv Y4, .pv Y6], pS, pS, pI] [pI] (c5A (s_l12Points_m N))) :=
 mO (fC (jn1 N) (fC (jrY N) (fC (jn2 N) (fC (jh6 N) (fC (jtF N) ja))))) func148 rfl N .no _
def jAu : Sh := ⟨.pv (.sl .str) :: pS :: dz 3 (pS :: pI :: dz 18 []), []⟩
def jxS (o : List Z2) (n : List UInt8) : Option (Z2) :=
 (iter (fun m (f, a, b, c) => bif decide (c < (f.length : Int)) then meet (fun (e : (List Z2) × Z2 × Z2 × Int) => match e with | (h, l, j, d) => oB (idx h d) fun i => if j.length + i.length <= 9223372036854775807 then if fits (d + 1) then m (h, l, (j ++ i), (d + 1)) else none else none) fun k => (bif decide ((0 : Int) < c) then if b.length + a.length <= 9223372036854775807 then k (f, a, (b ++ a), c) else none else k (f, a, b, c)) else some b) N (o, n, ([] : List UInt8), (0 : Int)))
theorem jAy : mK 220 (bX [.pv (.sl .str), pS] [pS] (c2A (jxS N))) :=
 mO ja func220 rfl N (.seq .no (.seq .no (.seq (.seq .no (.block (.loop jAu (.seq .no (.seq (.block (.meet jAu .no .no)) .no))))) .no))) _
def jB2 : Sh := ⟨dz 3 (pI :: .dead :: .box 5 0 :: .box 6 0 :: .dead :: .dead :: .own 600009 Y22 66 true :: .own 600010 Y18 151 true :: pI :: dz 65 []), [(5, false, [.pv Y4, .pv Y6]), (6, false, [pI, pS, .pv (.sl .str), pI, pI, .pv (.sl .q)])]⟩
def jCf : Sh := ⟨dz 3 (pI :: .dead :: .box 5 0 :: .box 6 0 :: .dead :: .dead :: .own 600009 Y22 66 true :: .own 600010 Y18 151 true :: pI :: pI :: .pv Y22 :: .own 600014 tI 3 true :: pI :: dz 61 []), [(5, false, [.pv Y4, .pv Y6]), (6, false, [pI, pS, .pv (.sl .str), pI, pI, .pv (.sl .q)])]⟩
def jyf (c : List Z2) (c2 : List Z3) (s : List Z0) (s2 : List Z1) (q : Int) (q2 : List UInt8) (q3 : List Z2) (q4 : Int) (q5 : Int) (q6 : List DQ) (id : Int) : Option (Z19) :=
 (oB (jxS N q3 ([32] : List UInt8)) fun r => oB (ja5 N c c2 r) fun r2 => iter (fun go (id2, out, terms, i, s3, s4, q7, q8, q9, q10, q11, q12) => bif decide (i < (terms.length : Int)) then oB (idx terms i) fun e => (oB (idx terms 0) fun e2 => if fits (e.2 - e2.2) then if fits ((e.2 - e2.2) - i) then oB (idx terms i) fun e3 => (oB (s_l12At_m N s3 s4 q8 e3.1 id2) fun r3 => iter (fun go2 (id3, out2, terms2, i2, shift, at0, list, k, s5, s6, q13, q14, q15, q16, q17, q18) => bif decide (k < (at0.length : Int)) then oB (idx at0 k) fun e4 => (bif decide (shift <= e4) then oB (idx at0 k) fun e5 => (if fits (e5 - shift) then if room list.length ([(e5 - shift)] : List Int).length 8 then if fits (k + 1) then go2 (id3, out2, terms2, i2, shift, at0, (list ++ ([(e5 - shift)] : List Int)), (k + 1), s5, s6, q13, q14, q15, q16, q17, q18) else none else none else none) else if fits (k + 1) then go2 (id3, out2, terms2, i2, shift, at0, list, (k + 1), s5, s6, q13, q14, q15, q16, q17, q18) else none) else if room out2.length ([list] : List (List Int)).length 24 then if fits (i2 + 1) then go (id3, (out2 ++ ([list] : List (List Int))), terms2, (i2 + 1), s5, s6, q13, q14, q15, q16, q17, q18) else none else none) N (id2, out, terms, i, ((e.2 - e2.2) - i), r3, ([] : List Int), (0 : Int), s3, s4, q7, q8, q9, q10, q11, q12)) else none else none) else some out) N (id, ([] : List (List Int)), r2, (0 : Int), s, s2, q, q2, q3, q4, q5, q6))
theorem jCm : mK 218 (bX [.agg [.pv (.sl .str), .pv Y17], .agg [.pv Y4, .pv Y6], .agg [pI, pS, .pv (.sl .str), pI, pI, .pv (.sl .q)], pI] [.own 1 Y22 66 true] (c11A (jyf N))) :=
 mO (fC (jAy N) (fC (jiO N) (fC (jn1 N) ja))) func218 rfl N (.seq .no (.seq .no (.seq .no (.seq (.seq .no (.block (.loop jB2 (.seq .no (.seq (.block (.seq .no (.seq .no (.seq .no (.seq (.seq .no (.block (.loop jCf .no))) .no))))) .no))))) .no)))) _
def jCI : Sh := ⟨.pv Y22 :: .dead :: .dead :: pI :: dz 31 [], []⟩
def jx3 (j : List Int) : Z7 :=
 (iter (fun c (b, a) => bif decide (a < (b.length : Int)) then oB (idx b a) fun i => (oB (jJ N i 0 999999999) fun f => bif !f then some false else bif decide ((0 : Int) < a) then oB (idx b a) fun e => (if fits (a - 1) then oB (idx b (a - 1)) fun d => (bif decide (e <= d) then some false else if fits (a + 1) then c (b, (a + 1)) else none) else none) else if fits (a + 1) then c (b, (a + 1)) else none) else some (decide ((b.length : Int) <= 60))) N (j, (0 : Int)))
theorem jC9 : mK 194 (bX [.pv Y22] [pB] (c1A (jx3 N))) :=
 mO (fC (jcL N) ja) func194 rfl N (.seq .no (.seq (.seq .no (.block (.loop jCI .no))) .no)) _
def jBI : Sh := ⟨.pv (.sl Y22) :: pI :: pI :: pI :: pI :: dz 6 (pI :: dz 46 []), []⟩
def jxJ (N : Nat) : (D : Nat) -> Z19 -> Int -> Int -> Int -> Int -> Z7
 | 0, _, _, _, _, _ => none
 | D + 1, lists, k, last, start, slop =>
 bif decide (k = (lists.length : Int)) then
 if fits (last - start) then if fits ((lists.length : Int) - 1) then if fits ((last - start) - ((lists.length : Int) - 1)) then some (decide (((last - start) - ((lists.length : Int) - 1)) <= slop)) else none else none else none
 else
 iter (fun go (g : Z19 × Int × Int × Int × Int × Int) =>
 match g with
 | (lists2, k2, last2, start2, slop2, i) =>
 oB (idx lists2 k2) fun e =>
 bif decide (i < (e.length : Int)) then
 oB (idx lists2 k2) fun e2 =>
 (oB (idx e2 i) fun e3 =>
 bif decide (last2 < e3) then
 if fits (k2 + 1) then oB (idx lists2 k2) fun e4 =>
 (oB (idx e4 i) fun e5 =>
 oB (jxJ N D lists2 (k2 + 1) e5 start2 slop2) fun r =>
 bif r then
 some true
 else
 if fits (i + 1) then go (lists2, k2, last2, start2, slop2, (i + 1)) else none) else none
 else
 if fits (i + 1) then go (lists2, k2, last2, start2, slop2, (i + 1)) else none)
 else
 some false) N (lists, k, last, start, slop, 0)
def jyj (N D : Nat) : Model := ⟨⟨[.pv (.sl Y22), pI, pI, pI, pI], []⟩, ⟨[pB], []⟩, c5A (jxJ N D)⟩
theorem jD8 (N D : Nat) (ih : mK 276 (jyj N D)) : mK 276 (jyj N (D + 1)) :=
 mO (fC ih ja) func276 rfl N (.seq .no (.seq .no (.seq (.seq .no (.block (.loop jBI .no))) .no))) (jyj N (D + 1))
theorem jzt (N : Nat) : ∀ D, mK 276 (jyj N D)
 | 0 => modelOk_none ⟨_, func276, by decide, by kernel_rfl⟩ _ (fun a => rfl)
 | D + 1 => jD8 N D (jzt N D)
def jCF : Sh := ⟨.pv (.sl Y22) :: pI :: dz 3 (.own 600005 tI 3 true :: pI :: dz 56 []), []⟩
def jBd : Sh := ⟨.pv (.sl Y22) :: pI :: dz 3 (.own 600005 tI 3 true :: .dead :: pI :: dz 55 []), []⟩
def jyb (y : List (List Int)) (z : Int) : Option ((List Int)) :=
 (iter (fun r (c, f, l, d) => bif decide (d < (c.length : Int)) then oB (idx c d) fun q => (oB (jx3 N q) fun w => bif !w then some ([] : List Int) else if fits (d + 1) then r (c, f, l, (d + 1)) else none) else oB (jJ N (c.length : Int) 1 6) fun m => bif !m then some ([] : List Int) else oB (jJ N f 0 5) fun A => bif !A then some ([] : List Int) else iter (fun k (b, i, e, a) => oB (idx b 0) fun o => bif decide (a < (o.length : Int)) then oB (idx b 0) fun u => (oB (idx u a) fun x => oB (idx b 0) fun v => oB (idx v a) fun t => oB (jxJ N N b 1 x t i) fun n => bif n then oB (idx b 0) fun p => (oB (idx p a) fun j => if room e.length ([j] : List Int).length 8 then if fits (a + 1) then k (b, i, (e ++ ([j] : List Int)), (a + 1)) else none else none) else if fits (a + 1) then k (b, i, e, (a + 1)) else none) else some e) N (c, f, l, (0 : Int))) N (y, z, ([] : List Int), (0 : Int)))
theorem jAW : mK 219 (bX [.pv (.sl Y22), pI] [.own 1 tI 3 true] (c2A (jyb N))) :=
 mO (fC (jC9 N) (fC (jcL N) (fC (jzt N N) ja))) func219 rfl N (.seq .no (.seq .no (.seq (.seq .no (.block (.loop jCF .no))) (.seq .no (.seq (.seq .no (.block (.loop jBd .no))) .no))))) _
def jCQ : Sh := ⟨dz 3 (pI :: .dead :: .box 5 0 :: .box 6 0 :: dz 3 (pI :: pI :: .own 600012 Y18 151 true :: pI :: dz 41 [])), [(5, false, [.pv Y4, .pv Y6]), (6, false, [pI, pS, .pv (.sl .str), pI, pI, .pv (.sl .q)])]⟩
def jCS : Sh := ⟨dz 3 (pI :: .box 4 0 :: .box 5 0 :: .box 6 0 :: dz 3 (pI :: dz 44 [])), [(4, false, [.pv (.sl .str), .pv Y17]), (5, false, [.pv Y4, .pv Y6]), (6, false, [pI, pS, .pv (.sl .str), pI, pI, .pv (.sl .q)])]⟩
def jx2 (h : List Z2) (m : List Z3) (k : List Z0) (p : List Z1) (l : Int) (e : List UInt8) (f : List Z2) (a : Int) (i : Int) (j : List DQ) (o : Int) : Z10 :=
 (oB (jyf N h m k p l e f a i j o) fun A => bif decide ((A.length : Int) = 0) then some 0 else oB (jyb N A a) fun r => meet (fun (q : Int × Int × (List Z2) × (List Z3) × (List Z0) × (List Z1) × Int × Z2 × (List Z2) × Int × Int × (List DQ)) => match q with | (W, aa, K, E, V, U, Q, O, t, I, R, X) => oB (jxS N t ([32] : List UInt8)) fun P => oB (ja5 N K E P) fun B => iter (fun L (y, n, c, d, b, w, u, H, v, S, D, G, C) => bif decide (b < (d.length : Int)) then oB (idx d b) fun T => (oB (s_l12Points_m N w u v T.1 y) fun z => if fits (c + z) then if fits (b + 1) then L (y, n, (c + z), d, (b + 1), w, u, H, v, S, D, G, C) else none else none) else if fits (c * n) then some (c * n) else none) N (W, aa, (0 : Int), B, (0 : Int), V, U, Q, O, t, I, R, X)) fun x => bif decide ((3 : Int) < r.length) then x (o, 3, h, m, k, p, l, e, f, a, i, j) else x (o, (r.length : Int), h, m, k, p, l, e, f, a, i, j))
theorem jAL : mK 150 (bX [.agg [.pv (.sl .str), .pv Y17], .agg [.pv Y4, .pv Y6], .agg [pI, pS, .pv (.sl .str), pI, pI, .pv (.sl .q)], pI] [pI] (c11A (jx2 N))) :=
 mO (fC (jCm N) (fC (jAW N) (fC (jAy N) (fC (jiO N) (fC (jrZ N) ja))))) func150 rfl N (.seq .no (.seq .no (.seq .no (.seq .no (.meet jCS .no (.seq .no (.seq .no (.seq (.seq .no (.block (.loop jCQ .no))) .no)))))))) _
def s_l5Min_m (N : Nat) (a : Int) (b : Int) : Z10 :=
 (bif decide (a < b) then some a else some b)
theorem jDQ : mK 277 (bX [pI, pI] [pI] (c2A (s_l5Min_m N))) :=
 mO ja func277 rfl N .no _
def jCw : Sh := ⟨pS :: pS :: dz 3 (.mtk 600005 tI 3 true :: pI :: dz 74 []), []⟩
def jDJ : Sh := ⟨pS :: pS :: dz 3 (.mtk 600005 tI 3 true :: .dead :: pI :: dz 73 []), []⟩
def jDM : Sh := ⟨pS :: pS :: dz 3 (.mtk 600005 tI 3 true :: .dead :: pI :: pI :: pI :: dz 71 []), []⟩
def jBZ : Sh := ⟨pS :: pS :: dz 3 (.mtk 600005 tI 3 true :: .dead :: pI :: .dead :: pI :: pI :: dz 70 []), []⟩
def s_l5Far_m (y : List UInt8) (c : List UInt8) : Z10 :=
 (if fits ((c.length : Int) + 1) then if ((c.length : Int) + 1) = ((c.length : Int) + 1) /\ 0 <= ((c.length : Int) + 1) /\ ((c.length : Int) + 1) * 8 <= 140737488355328 /\ ((c.length : Int) + 1) <= 140737488355328 then iter (fun z (u, o, m, d) => bif decide (d <= (o.length : Int)) then if 0 <= d /\ d < (m.length : Int) then oB (m[d.toNat]?) fun S => (if fits (d + 1) then z (u, o, (m.set d.toNat d), (d + 1)) else none) else none else iter (fun H (t, j, e, l) => bif decide (l < (t.length : Int)) then if 0 <= (0 : Int) /\ (0 : Int) < e.length then oB (e[(0 : Int).toNat]?) fun E => (if fits (l + 1) then if 0 <= (0 : Int) /\ (0 : Int) < e.length then oB (e[(0 : Int).toNat]?) fun R => (iter (fun B (k, h, q, i, p, n) => bif decide (n < (h.length : Int)) then meet (fun (f : Z21) => match f with | (O, A, b, D, a, L) => if fits (a + 1) then if 0 <= (a + 1) /\ (a + 1) < (b.length : Int) then oB (b[(a + 1).toNat]?) fun P => (if fits (a + 1) then if 0 <= a /\ a < (b.length : Int) then oB (b[a.toNat]?) fun K => (if fits (a + 1) then if 0 <= (a + 1) /\ (a + 1) < (b.length : Int) then oB (b[(a + 1).toNat]?) fun x => (oB (s_l5Min_m N K x) fun v => if fits (v + 1) then oB (s_l5Min_m N L (v + 1)) fun w => (if 0 <= (a + 1) /\ (a + 1) < (b.length : Int) then oB (b[(a + 1).toNat]?) fun Q => (if fits (a + 1) then B (O, A, (b.set (a + 1).toNat w), D, P, (a + 1)) else none) else none) else none) else none else none) else none else none) else none else none) fun r => (oB (idx k i) fun C => oB (idx h n) fun I => bif !decide ((C.toNat : Int) = (I.toNat : Int)) then if fits (p + 1) then r (k, h, q, i, n, (p + 1)) else none else r (k, h, q, i, n, p)) else if fits (i + 1) then H (k, h, q, (i + 1)) else none) N (t, j, (e.set (0 : Int).toNat (l + 1)), l, E, (0 : Int))) else none else none) else none else if 0 <= (j.length : Int) /\ (j.length : Int) < (e.length : Int) then oB (e[(j.length : Int).toNat]?) fun G => (some G) else none) N (u, o, m, (0 : Int))) N (y, c, (List.replicate ((c.length : Int) + 1).toNat 0), (0 : Int)) else none else none)
theorem jBt : mK 221 (bX [pS, pS] [pI] (c2A (s_l5Far_m N))) :=
 mO (fC (jDQ N) ja) func221 rfl N (.seq .no (.seq .no (.seq (.seq .no (.block (.loop jCw .no))) (.seq (.seq .no (.block (.loop jDJ (.seq .no (.seq (.block (.seq .no (.seq .no (.seq .no (.block (.loop jDM (.seq .no (.seq (.block (.seq .no (.meet jBZ .no .no))) .no)))))))) .no))))) .no)))) _ (wr := [14])
def jC5 : Sh := ⟨.dead :: .dead :: pI :: .box 3 0 :: .box 4 0 :: .dead :: .dead :: pI :: pI :: dz 49 [], [(3, false, [.pv Y4, .pv Y6]), (4, false, [pI, pS, .pv (.sl .str), pI, pI, .pv (.sl .q)])]⟩
def jx5 (t : List Z0) (A : List Z1) (v : Int) (w : List UInt8) (x : List Z2) (q : Int) (z : Int) (r : List DQ) (y : Int) : Z10 :=
 (iter (fun n (i, j, a, h, b, k, c, f, e, m, o) => bif decide (a < (b.length : Int)) then oB (idx b a) fun p => (oB (idx f 0) fun u => oB (s_l5Far_m N p.2.1 u) fun d => bif !decide (p.1 = c) then if fits (a + 1) then n (i, j, (a + 1), h, b, k, c, f, e, m, o) else none else bif decide (e < d) then if fits (a + 1) then n (i, j, (a + 1), h, b, k, c, f, e, m, o) else none else oB (s_l12Points_m N h b c p.2.1 i) fun l => if fits (3 - d) then if fits (l * (3 - d)) then if 3 ≠ 0 then if fits ((l * (3 - d)).tdiv 3) then bif decide (j < ((l * (3 - d)).tdiv 3)) then if fits (a + 1) then n (i, ((l * (3 - d)).tdiv 3), (a + 1), h, b, k, c, f, e, m, o) else none else (if fits (a + 1) then n (i, j, (a + 1), h, b, k, c, f, e, m, o) else none) else none else none else none else none) else some j) N (y, (0 : Int), (0 : Int), t, A, v, w, x, q, z, r))
theorem jCb : mK 151 (bX [.agg [.pv Y4, .pv Y6], .agg [pI, pS, .pv (.sl .str), pI, pI, .pv (.sl .q)], pI] [pI] (c9A (jx5 N))) :=
 mO (fC (jBt N) (fC (jrZ N) ja)) func151 rfl N (.seq .no (.seq .no (.seq (.seq .no (.block (.loop jC5 .no))) .no))) _
def jxB (N : Nat) : (D : Nat) -> Z2 -> Z2 -> Z7
 | 0, _, _ => none
 | D + 1, p, s =>
 bif decide (p = ([] : List UInt8)) then
 some (decide (s = ([] : List UInt8)))
 else
 oB (idx p 0) fun c =>
 bif decide ((c.toNat : Int) = 42) then
 oB (cut p 1 (p.length : Int)) fun y =>
 (oB (jxB N D y s) fun r =>
 bif r then
 some true
 else
 bif !decide (s = ([] : List UInt8)) then
 oB (cut s 1 (s.length : Int)) fun y2 =>
 (oB (jxB N D p y2) fun r2 =>
 some r2)
 else
 some false)
 else
 bif !decide (s = ([] : List UInt8)) then
 oB (idx p 0) fun c2 =>
 (bif decide ((c2.toNat : Int) = 63) then
 oB (cut p 1 (p.length : Int)) fun y3 =>
 (oB (cut s 1 (s.length : Int)) fun y4 =>
 oB (jxB N D y3 y4) fun r3 =>
 some r3)
 else
 oB (idx p 0) fun c3 =>
 oB (idx s 0) fun c4 =>
 bif decide ((c3.toNat : Int) = (c4.toNat : Int)) then
 oB (cut p 1 (p.length : Int)) fun y5 =>
 (oB (cut s 1 (s.length : Int)) fun y6 =>
 oB (jxB N D y5 y6) fun r4 =>
 some r4)
 else
 some false)
 else
 some false
def jyr (N D : Nat) : Model := ⟨⟨[pS, pS], []⟩, ⟨[pB], []⟩, c2A (jxB N D)⟩
theorem jDg (N D : Nat) (ih : mK 222 (jyr N D)) : mK 222 (jyr N (D + 1)) :=
 mO (fC ih ja) func222 rfl N .no (jyr N (D + 1))
theorem jzM (N : Nat) : ∀ D, mK 222 (jyr N D)
 | 0 => modelOk_none ⟨_, func222, by decide, by kernel_rfl⟩ _ (fun a => rfl)
 | D + 1 => jDg N D (jzM N D)
def jBi : Sh := ⟨.dead :: .dead :: pI :: .box 3 0 :: .box 4 0 :: .dead :: .dead :: pI :: dz 38 [], [(3, false, [.pv Y4, .pv Y6]), (4, false, [pI, pS, .pv (.sl .str), pI, pI, .pv (.sl .q)])]⟩
def jyd (q : List Z0) (z : List Z1) (t : Int) (u : List UInt8) (v : List Z2) (n : Int) (x : Int) (p : List DQ) (w : Int) : Z7 :=
 (iter (fun l (f, a, e, b, h, c, d, j, i, m) => bif decide (a < (b.length : Int)) then oB (idx b a) fun k => (bif decide (k.1 = c) then oB (idx d 0) fun r => (oB (jxB N N r k.2.1) fun y => bif y then oB (s_l12At_m N e b c k.2.1 f) fun o => (bif decide ((0 : Int) < o.length) then some true else if fits (a + 1) then l (f, (a + 1), e, b, h, c, d, j, i, m) else none) else if fits (a + 1) then l (f, (a + 1), e, b, h, c, d, j, i, m) else none) else if fits (a + 1) then l (f, (a + 1), e, b, h, c, d, j, i, m) else none) else some false) N (w, (0 : Int), q, z, t, u, v, n, x, p))
theorem jCi : mK 153 (bX [.agg [.pv Y4, .pv Y6], .agg [pI, pS, .pv (.sl .str), pI, pI, .pv (.sl .q)], pI] [pB] (c9A (jyd N))) :=
 mO (fC (jzM N N) (fC (jn1 N) ja)) func153 rfl N (.seq .no (.seq (.seq .no (.block (.loop jBi .no))) .no)) _
def jyV (N : Nat) (a : Bool) : Z10 :=
 (bif a then some 100 else some 0)
theorem jCo : mK 152 (bX [pB] [pI] (c1A (jyV N))) :=
 mO ja func152 rfl N .no _
def jA0 : Sh := ⟨.dead :: pI :: .box 2 0 :: .dead :: .box 4 0 :: pI :: dz 21 [], [(2, false, [.pv Y4, .pv Y6]), (4, false, [pI, .nils, .nils])]⟩
def jyv (i : List Z0) (j : List Z1) (e : Int) : Option Z0 :=
 (iter (fun m (d, a, b, f, h) => bif decide (a < (b.length : Int)) then oB (idx b a) fun l => (bif decide (l.1 = d) then oB (idx b a) fun c => (some (c.1, c.2.1, c.2.2)) else if fits (a + 1) then m (d, (a + 1), b, f, h) else none) else some (0, ([] : Z15), ([] : Z9))) N (e, (0 : Int), i, j, (0 : Int)))
theorem jDn : mK 155 (bX [.agg [.pv Y4, .pv Y6], pI] [.agg [pI, .pv Y20, .pv Y16]] (c3A (jyv N))) :=
 mO ja func155 rfl N (.seq .no (.seq (.seq .no (.block (.loop jA0 .no))) .no)) _
def jym (d : Int) (m : Z15) (i : Z9) (h : List UInt8) : Z10 :=
 (iter (fun n (c, a, j, f, b) => bif decide (a < (b.length : Int)) then oB (idx b a) fun l => (bif decide (l.1 = c) then oB (idx b a) fun e => (some e.2) else if fits (a + 1) then n (c, (a + 1), j, f, b) else none) else some (-1)) N (h, (0 : Int), d, m, i))
theorem jDS : mK 154 (bX [.agg [pI, .pv Y20, .pv Y16], pS] [pI] (c4A (jym N))) :=
 mO ja func154 rfl N (.seq .no (.seq (.seq .no (.block (.loop jl8 .no))) .no)) _
def jDX : Sh := ⟨dz 3 (pI :: .box 4 0 :: .box 5 0 :: .box 6 0 :: .dead :: .dead :: pI :: pI :: dz 111 []), [(4, false, [.pv (.sl .str), .pv Y17]), (5, false, [.pv Y4, .pv Y6]), (6, false, [pI, pS, .pv (.sl .str), pI, pI, .pv (.sl .q)])]⟩
def s_l12Score_m (N : Nat) : (D : Nat) -> (List Z2) -> (List Z3) -> (List Z0) -> (List Z1) -> Int -> Z2 -> (List Z2) -> Int -> Int -> (List DQ) -> Int -> Z10
 | 0, _, _, _, _, _, _, _, _, _, _, _ => none
 | D + 1, c, c2, s, s2, q, q2, q3, q4, q5, q6, id =>
 bif decide (q = 1) then
 some 100
 else
 bif decide (q = 2) then
 oB (idx q3 0) fun e =>
 (oB (jyC N c c2 e) fun r =>
 oB (s_l12Points_m N s s2 q2 r id) fun r2 =>
 some r2)
 else
 bif decide (q = 3) then
 oB (jx2 N c c2 s s2 q q2 q3 q4 q5 q6 id) fun r3 =>
 (some r3)
 else
 bif decide (q = 4) then
 oB (jx5 N s s2 q q2 q3 q4 q5 q6 id) fun r4 =>
 (some r4)
 else
 bif decide (q = 5) then
 oB (jyd N s s2 q q2 q3 q4 q5 q6 id) fun r5 =>
 (oB (jyV N r5) fun r6 =>
 some r6)
 else
 bif decide (q = 6) then
 oB (jyv N s s2 id) fun r7 =>
 (oB (jym N r7.1 r7.2.1 r7.2.2 q2) fun r8 =>
 oB (jJ N r8 q4 q5) fun r9 =>
 oB (jyV N r9) fun r10 =>
 some r10)
 else
 bif decide (q = 10) then
 oB (idx q6 0) fun e2 =>
 (oB (s_l12Score_m N D c c2 s s2 e2.kind e2.field e2.words e2.lo e2.hi e2.kids id) fun r11 =>
 if fits (q4 * r11) then some (q4 * r11) else none)
 else
 bif decide (q = 9) then
 oB (idx q6 1) fun e3 =>
 (oB (s_l12Score_m N D c c2 s s2 e3.kind e3.field e3.words e3.lo e3.hi e3.kids id) fun r12 =>
 bif decide ((0 : Int) < r12) then
 some 0
 else
 oB (idx q6 0) fun e4 =>
 oB (s_l12Score_m N D c c2 s s2 e4.kind e4.field e4.words e4.lo e4.hi e4.kids id) fun r13 =>
 some r13)
 else
 iter (fun go (g : Int × Int × Int × (List Z2) × (List Z3) × (List Z0) × (List Z1) × Int × Z2 × (List Z2) × Int × Int × (List DQ)) =>
 match g with
 | (id2, sum, i, c3, c4, s3, s4, q7, q8, q9, q10, q11, q12) =>
 bif decide (i < (q12.length : Int)) then
 oB (idx q12 i) fun e5 =>
 (oB (s_l12Score_m N D c3 c4 s3 s4 e5.kind e5.field e5.words e5.lo e5.hi e5.kids id2) fun r14 =>
 bif decide (r14 = 0) then
 bif decide (q7 = 7) then
 some 0
 else
 (if fits (sum + r14) then if fits (i + 1) then go (id2, (sum + r14), (i + 1), c3, c4, s3, s4, q7, q8, q9, q10, q11, q12) else none else none)
 else
 if fits (sum + r14) then if fits (i + 1) then go (id2, (sum + r14), (i + 1), c3, c4, s3, s4, q7, q8, q9, q10, q11, q12) else none else none)
 else
 some sum) N (id, 0, 0, c, c2, s, s2, q, q2, q3, q4, q5, q6)
def jyz (N D : Nat) : Model := ⟨⟨[.agg [.pv (.sl .str), .pv Y17], .agg [.pv Y4, .pv Y6], .agg [pI, pS, .pv (.sl .str), pI, pI, .pv (.sl .q)], pI], []⟩, ⟨[pI], []⟩, c11A (s_l12Score_m N D)⟩
theorem jBH (N D : Nat) (ih : mK 69 (jyz N D)) : mK 69 (jyz N (D + 1)) :=
 mO (fC ih (fC (jCy N) (fC (jrZ N) (fC (jAL N) (fC (jCb N) (fC (jCi N) (fC (jCo N) (fC (jDn N) (fC (jDS N) (fC (jcL N) ja)))))))))) func69 rfl N (.seq .no (.seq .no (.seq .no (.seq (.seq .no (.block (.loop jDX .no))) .no)))) (jyz N (D + 1))
theorem jz7 (N : Nat) : ∀ D, mK 69 (jyz N D)
 | 0 => modelOk_none ⟨_, func69, by decide, by kernel_rfl⟩ _ (fun a => rfl)
 | D + 1 => jBH N D (jz7 N D)
def jaw (N : Nat) (a : Int) : Z7 :=
 (bif decide ((97 : Int) <= a) then bif decide (a <= 122) then some true else (bif decide ((48 : Int) <= a) then some (decide (a <= 57)) else some false) else bif decide ((48 : Int) <= a) then some (decide (a <= 57)) else some false)
theorem jeK : mK 167 (bX [.pv (.int .u8)] [pB] (c1A (jaw N))) :=
 mO ja func167 rfl N .no _
def jm (N : Nat) (a : Int) (c : Int) (b : Int) : Z7 :=
 (bif decide (c <= a) then some (decide (a <= b)) else some false)
theorem jY : mK 91 (bX [pI, pI, pI] [pB] (c3A (jm N))) :=
 mO ja func91 rfl N .no _
def jqW : Sh := ⟨pS :: dz 4 (pI :: pI :: dz 11 []), []⟩
def jO (c : List UInt8) : Z7 :=
 (iter (fun j (b, d, a) => bif decide (a < d) then oB (idx b a) fun f => (oB (jaw N (f.toNat : Int)) fun h => bif !h then some false else if fits (a + 1) then j (b, d, (a + 1)) else none) else oB (jm N (b.length : Int) 1 12) fun e => some e) N (c, (c.length : Int), (0 : Int)))
theorem jcM : mK 89 (bX [pS] [pB] (c1A (jO N))) :=
 mO (fC (jeK N) (fC (jY N) ja)) func89 rfl N (.seq .no (.seq (.seq .no (.block (.loop jqW .no))) .no)) _
def jDx : Sh := ⟨pS :: dz 4 (pI :: pI :: dz 23 []), []⟩
def jxV (e : List UInt8) : Z7 :=
 (iter (fun d (b, c, a) => bif decide (a < c) then oB (idx b a) fun h => (oB (jaw N (h.toNat : Int)) fun i => bif !i then oB (idx b a) fun l => (bif !decide ((l.toNat : Int) = 42) then oB (idx b a) fun k => (bif !decide ((k.toNat : Int) = 63) then some false else if fits (a + 1) then d (b, c, (a + 1)) else none) else if fits (a + 1) then d (b, c, (a + 1)) else none) else if fits (a + 1) then d (b, c, (a + 1)) else none) else oB (jm N (b.length : Int) 1 12) fun f => some f) N (e, (e.length : Int), (0 : Int)))
theorem jz9 : mK 190 (bX [pS] [pB] (c1A (jxV N))) :=
 mO (fC (jeK N) (fC (jY N) ja)) func190 rfl N (.seq .no (.seq (.seq .no (.block (.loop jDx .no))) .no)) _
def jBs : Sh := ⟨.dead :: pI :: .box 2 0 :: dz 90 (.pv (.sl .str) :: pI :: pI :: dz 39 []), [(2, false, [pI, pS, .pv (.sl .str), pI, pI, .pv (.sl .q)])]⟩
def jC6 : Sh := ⟨.dead :: pI :: dz 121 (.pv (.sl .q) :: pI :: pI :: dz 9 []), []⟩
def jDY : Sh := ⟨.dead :: pI :: .box 2 0 :: dz 132 [], [(2, false, [pI, pS, .pv (.sl .str), pI, pI, .pv (.sl .q)])]⟩
def jzZ : Sh := ⟨.dead :: pI :: .box 2 0 :: .dead :: .dead :: .box 5 0 :: dz 129 [], [(2, false, [pI, pS, .pv (.sl .str), pI, pI, .pv (.sl .q)]), (5, false, [pB, pI, pI, pI, pI, pB, pI, pI])]⟩
def jxE (N : Nat) : (D : Nat) -> Int -> Z2 -> (List Z2) -> Int -> Int -> (List DQ) -> Int -> Z7
 | 0, _, _, _, _, _, _, _ => none
 | D + 1, q, q2, q3, q4, q5, q6, deep =>
 meet (fun (g : Z22) =>
 match g with
 | (deep2, q7, q8, q9, q10, q11, q12, x, x2, x3, x4, x5, x6, x7, x8) =>
 meet (fun (g : Z22) =>
 match g with
 | (deep3, q13, q14, q15, q16, q17, q18, x9, x10, x11, x12, x13, x14, x15, x16) =>
 meet (fun (g : Int × Int × Z2 × (List Z2) × Int × Int × (List DQ)) =>
 match g with
 | (deep4, q19, q20, q21, q22, q23, q24) =>
 iter (fun go (g : Int × (List Z2) × Int × Int × Int × Z2 × (List Z2) × Int × Int × (List DQ)) =>
 match g with
 | (deep5, t93, t94, t95, q25, q26, q27, q28, q29, q30) =>
 bif decide (t95 < t94) then
 oB (idx t93 t95) fun e =>
 (bif decide (q25 = 5) then
 oB (jxV N e) fun r6 =>
 (bif !r6 then
 some false
 else
 oB (jO N e) fun r7 =>
 bif r7 then
 some false
 else
 bif !decide (q25 = 5) then
 oB (jO N e) fun r8 =>
 (bif !r8 then
 some false
 else
 if fits (t95 + 1) then go (deep5, t93, t94, (t95 + 1), q25, q26, q27, q28, q29, q30) else none)
 else
 if fits (t95 + 1) then go (deep5, t93, t94, (t95 + 1), q25, q26, q27, q28, q29, q30) else none)
 else
 bif !decide (q25 = 5) then
 oB (jO N e) fun r9 =>
 (bif !r9 then
 some false
 else
 if fits (t95 + 1) then go (deep5, t93, t94, (t95 + 1), q25, q26, q27, q28, q29, q30) else none)
 else
 if fits (t95 + 1) then go (deep5, t93, t94, (t95 + 1), q25, q26, q27, q28, q29, q30) else none)
 else
 iter (fun go2 (g : Int × (List DQ) × Int × Int) =>
 match g with
 | (deep6, t123, t124, t125) =>
 bif decide (t125 < t124) then
 oB (idx t123 t125) fun e2 =>
 (if fits (deep6 - 1) then oB (jxE N D e2.kind e2.field e2.words e2.lo e2.hi e2.kids (deep6 - 1)) fun r10 =>
 (bif !r10 then
 some false
 else
 if fits (t125 + 1) then go2 (deep6, t123, t124, (t125 + 1)) else none) else none)
 else
 some true) N (deep5, q30, (q30.length : Int), 0)) N (deep4, q21, (q21.length : Int), 0, q19, q20, q21, q22, q23, q24)) fun J3 =>
 bif x14 then
 oB (jm N q17 q16 999999999) fun r5 =>
 (bif !r5 then
 some false
 else
 bif !x14 then
 bif !decide (q17 = 0) then
 some false
 else
 (J3 (deep3, q13, q14, q15, q16, q17, q18))
 else
 J3 (deep3, q13, q14, q15, q16, q17, q18))
 else
 bif !x14 then
 bif !decide (q17 = 0) then
 some false
 else
 (J3 (deep3, q13, q14, q15, q16, q17, q18))
 else
 J3 (deep3, q13, q14, q15, q16, q17, q18)) fun J2 =>
 oB (jm N (q9.length : Int) x2 x3) fun r2 =>
 bif !r2 then
 some false
 else
 oB (jm N (q12.length : Int) x7 x8) fun r3 =>
 bif !r3 then
 some false
 else
 oB (jm N q10 x4 x5) fun r4 =>
 bif !r4 then
 some false
 else
 J2 (deep2, q7, q8, q9, q10, q11, q12, x, x2, x3, x4, x5, x6, x7, x8)) fun J =>
 bif !((mget tI (.pair .bool (.pair tI (.pair tI (.pair tI (.pair tI (.pair .bool Y15)))))) gm_shapes q).isSome) then
 some false
 else
 bif decide (deep < 1) then
 some false
 else
 bif !((((mget tI (.pair .bool (.pair tI (.pair tI (.pair tI (.pair tI (.pair .bool Y15)))))) gm_shapes q).getD (false, (0, (0, (0, (0, (false, (0, 0)))))))).1) == (!decide (q2 = ([] : List UInt8)))) then
 some false
 else
 bif ((mget tI (.pair .bool (.pair tI (.pair tI (.pair tI (.pair tI (.pair .bool Y15)))))) gm_shapes q).getD (false, (0, (0, (0, (0, (false, (0, 0)))))))).1 then
 oB (jO N q2) fun r =>
 (bif !r then
 some false
 else
 J (deep, q, q2, q3, q4, q5, q6, ((mget tI (.pair .bool (.pair tI (.pair tI (.pair tI (.pair tI (.pair .bool Y15)))))) gm_shapes q).getD (false, (0, (0, (0, (0, (false, (0, 0)))))))).1, (((mget tI (.pair .bool (.pair tI (.pair tI (.pair tI (.pair tI (.pair .bool Y15)))))) gm_shapes q).getD (false, (0, (0, (0, (0, (false, (0, 0)))))))).2).1, ((((mget tI (.pair .bool (.pair tI (.pair tI (.pair tI (.pair tI (.pair .bool Y15)))))) gm_shapes q).getD (false, (0, (0, (0, (0, (false, (0, 0)))))))).2).2).1, (((((mget tI (.pair .bool (.pair tI (.pair tI (.pair tI (.pair tI (.pair .bool Y15)))))) gm_shapes q).getD (false, (0, (0, (0, (0, (false, (0, 0)))))))).2).2).2).1, ((((((mget tI (.pair .bool (.pair tI (.pair tI (.pair tI (.pair tI (.pair .bool Y15)))))) gm_shapes q).getD (false, (0, (0, (0, (0, (false, (0, 0)))))))).2).2).2).2).1, (((((((mget tI (.pair .bool (.pair tI (.pair tI (.pair tI (.pair tI (.pair .bool Y15)))))) gm_shapes q).getD (false, (0, (0, (0, (0, (false, (0, 0)))))))).2).2).2).2).2).1, ((((((((mget tI (.pair .bool (.pair tI (.pair tI (.pair tI (.pair tI (.pair .bool Y15)))))) gm_shapes q).getD (false, (0, (0, (0, (0, (false, (0, 0)))))))).2).2).2).2).2).2).1, ((((((((mget tI (.pair .bool (.pair tI (.pair tI (.pair tI (.pair tI (.pair .bool Y15)))))) gm_shapes q).getD (false, (0, (0, (0, (0, (false, (0, 0)))))))).2).2).2).2).2).2).2))
 else
 J (deep, q, q2, q3, q4, q5, q6, ((mget tI (.pair .bool (.pair tI (.pair tI (.pair tI (.pair tI (.pair .bool Y15)))))) gm_shapes q).getD (false, (0, (0, (0, (0, (false, (0, 0)))))))).1, (((mget tI (.pair .bool (.pair tI (.pair tI (.pair tI (.pair tI (.pair .bool Y15)))))) gm_shapes q).getD (false, (0, (0, (0, (0, (false, (0, 0)))))))).2).1, ((((mget tI (.pair .bool (.pair tI (.pair tI (.pair tI (.pair tI (.pair .bool Y15)))))) gm_shapes q).getD (false, (0, (0, (0, (0, (false, (0, 0)))))))).2).2).1, (((((mget tI (.pair .bool (.pair tI (.pair tI (.pair tI (.pair tI (.pair .bool Y15)))))) gm_shapes q).getD (false, (0, (0, (0, (0, (false, (0, 0)))))))).2).2).2).1, ((((((mget tI (.pair .bool (.pair tI (.pair tI (.pair tI (.pair tI (.pair .bool Y15)))))) gm_shapes q).getD (false, (0, (0, (0, (0, (false, (0, 0)))))))).2).2).2).2).1, (((((((mget tI (.pair .bool (.pair tI (.pair tI (.pair tI (.pair tI (.pair .bool Y15)))))) gm_shapes q).getD (false, (0, (0, (0, (0, (false, (0, 0)))))))).2).2).2).2).2).1, ((((((((mget tI (.pair .bool (.pair tI (.pair tI (.pair tI (.pair tI (.pair .bool Y15)))))) gm_shapes q).getD (false, (0, (0, (0, (0, (false, (0, 0)))))))).2).2).2).2).2).2).1, ((((((((mget tI (.pair .bool (.pair tI (.pair tI (.pair tI (.pair tI (.pair .bool Y15)))))) gm_shapes q).getD (false, (0, (0, (0, (0, (false, (0, 0)))))))).2).2).2).2).2).2).2)
def jyl (N D : Nat) : Model := ⟨⟨[.agg [pI, pS, .pv (.sl .str), pI, pI, .pv (.sl .q)], pI], []⟩, ⟨[pB], []⟩, c7A (jxE N D)⟩
theorem jAF (N D : Nat) (ih : mK 119 (jyl N D)) : mK 119 (jyl N (D + 1)) :=
 mO (fC ih (fC (jcM N) (fC (jY N) (fC (jz9 N) ja)))) func119 rfl N (.seq .no (.seq .no (.meet jzZ .no (.meet jzZ .no (.meet jDY .no (.seq (.seq .no (.block (.loop jBs .no))) (.seq (.seq .no (.block (.loop jC6 .no))) .no))))))) (jyl N (D + 1))
theorem jzh (N : Nat) : ∀ D, mK 119 (jyl N D)
 | 0 => modelOk_none ⟨_, func119, by decide, by kernel_rfl⟩ _ (fun a => rfl)
 | D + 1 => jAF N D (jzh N D)
def i_QueryOk_m (c : Int) (f : List UInt8) (h : List Z2) (a : Int) (d : Int) (b : List DQ) : Z7 :=
 (oB (jxE N N c f h a d b 4) fun e => some e)
theorem jCN : mK 43 (bX [.agg [pI, pS, .pv (.sl .str), pI, pI, .pv (.sl .q)]] [pB] (c6A (i_QueryOk_m N))) :=
 mO (fC (jzh N N) ja) func43 rfl N .no _
def jmc : Sh := ⟨.pv (.sl .str) :: dz 4 (.pv (.sl .str) :: pI :: pI :: dz 21 []), []⟩
def jb2 (e : List Z2) : Z7 :=
 (iter (fun h (c, d, b, a) => bif decide (a < b) then oB (idx d a) fun f => (oB (jO N f) fun j => bif !j then some false else bif decide ((0 : Int) < a) then if fits (a - 1) then oB (idx c (a - 1)) fun i => (bif !Op.bytesLess i f then some false else if fits (a + 1) then h (c, d, b, (a + 1)) else none) else none else if fits (a + 1) then h (c, d, b, (a + 1)) else none) else some true) N (e, e, (e.length : Int), (0 : Int)))
theorem jtw : mK 90 (bX [.pv (.sl .str)] [pB] (c1A (jb2 N))) :=
 mO (fC (jcM N) ja) func90 rfl N (.seq .no (.seq (.seq .no (.block (.loop jmc .no))) .no)) _
def jdF (N : Nat) (a : List UInt8) (b : List UInt8) : Z7 :=
 (bif decide ((b.length : Int) <= (a.length : Int)) then if fits ((a.length : Int) - (b.length : Int)) then oB (cut a ((a.length : Int) - (b.length : Int)) (a.length : Int)) fun c => (some (decide (c = b))) else none else some false)
theorem jpU : mK 233 (bX [pS, pS] [pB] (c2A (jdF N))) :=
 mO ja func233 rfl N .no _
def jcN (b : List UInt8) (a : List UInt8) : Z7 :=
 (oB (jdF N b a) fun c => some c)
theorem jsu : mK 168 (bX [pS, pS] [pB] (c2A (jcN N))) :=
 mO (fC (jpU N) ja) func168 rfl N .no _
def jod : Sh := ⟨pS :: .dead :: .dead :: pB :: dz 32 [], []⟩
def jnf : Sh := ⟨pS :: .dead :: .dead :: pB :: dz 6 (.own 600010 .str 9 true :: pI :: pI :: dz 23 []), []⟩
def jaB (i : List UInt8) : Option (Z2) :=
 (oB (jO N i) fun o => bif !o then some ([] : List UInt8) else iter (fun l (j, n) => bif n then iter (fun k (a, h, e, d, b) => bif decide (b < d) then oB (idx e b) fun c => (oB (jcN N a c) fun m => bif m then if fits ((a.length : Int) - (c.length : Int)) then bif decide ((3 : Int) <= ((a.length : Int) - (c.length : Int))) then if fits ((a.length : Int) - (c.length : Int)) then oB (cut a 0 ((a.length : Int) - (c.length : Int))) fun p => (l (p, true)) else none else (if fits (b + 1) then k (a, h, e, d, (b + 1)) else none) else none else if fits (b + 1) then k (a, h, e, d, (b + 1)) else none) else l (a, h)) N (j, false, ([([105, 110, 103] : List UInt8), ([101, 100] : List UInt8), ([101, 115] : List UInt8), ([108, 121] : List UInt8), ([115] : List UInt8)] : List Z2), (([([105, 110, 103] : List UInt8), ([101, 100] : List UInt8), ([101, 115] : List UInt8), ([108, 121] : List UInt8), ([115] : List UInt8)] : List Z2).length : Int), (0 : Int)) else some j) N (i, true))
theorem jio : mK 92 (bX [pS] [pS] (c1A (jaB N))) :=
 mO (fC (jcM N) (fC (jsu N) ja)) func92 rfl N (.seq .no (.seq .no (.seq (.seq .no (.block (.loop jod (.seq .no (.block (.seq .no (.seq .no (.block (.loop jnf .no))))))))) .no))) _
def jkJ : Sh := ⟨.pv (.sl .str) :: pS :: dz 5 (pI :: pI :: dz 10 []), []⟩
def jdH (c : List Z2) (f : List UInt8) : Z10 :=
 (iter (fun j (e, b, d, a) => bif decide (a < d) then oB (idx e a) fun i => (bif decide (b = i) then some a else if fits (a + 1) then j (e, b, d, (a + 1)) else none) else some (-1)) N (c, f, (c.length : Int), (0 : Int)))
theorem jkZ : mK 169 (bX [.pv (.sl .str), pS] [pI] (c2A (jdH N))) :=
 mO ja func169 rfl N (.seq .no (.seq (.seq .no (.block (.loop jkJ .no))) .no)) _
def jao (b : List Z2) (a : List UInt8) : Z7 :=
 (oB (jdH N b a) fun c => some (decide ((0 : Int) <= c)))
theorem jh5 : mK 93 (bX [.pv (.sl .str), pS] [pB] (c2A (jao N))) :=
 mO (fC (jkZ N) ja) func93 rfl N .no _
def jmj : Sh := ⟨.dead :: .box 1 0 :: dz 22 (.pv Y17 :: pI :: pI :: dz 46 []), [(1, false, [.pv (.sl .str), .pv Y17])]⟩
def jrC : Sh := ⟨.dead :: .box 1 0 :: dz 22 (.pv Y17 :: pI :: pI :: dz 12 (pB :: dz 7 (pB :: .dead :: .dead :: .pv (.sl .str) :: pI :: pI :: dz 20 []))), [(1, false, [.pv (.sl .str), .pv Y17])]⟩
def jaj (h : List Z2) (d : List Z3) : Z7 :=
 (bif decide ((6 : Int) < h.length) then some false else oB (jb2 N h) fun E => bif !E then some false else bif decide ((4 : Int) < d.length) then some false else iter (fun A (t, m, f, B, y) => bif decide (f < m) then oB (idx t f) fun a => (oB (jm N (a.1.length : Int) 1 3) fun v => bif !v then some false else oB (jO N a.2) fun r => bif !r then some false else oB (jaB N a.2) fun l => bif !decide (l = a.2) then some false else iter (fun z (p, q, e, D, C, o, k, c, i, n) => bif decide (c < k) then oB (idx o c) fun b => (oB (jO N b) fun u => bif !u then some false else oB (jaB N b) fun w => bif !decide (w = b) then some false else oB (jao N i b) fun x => bif x then some false else if fits (c + 1) then z (p, q, e, D, C, o, k, (c + 1), i, n) else none) else if fits (e + 1) then A (p, q, (e + 1), i, n) else none) N (t, m, f, (!r), (!decide (l = a.2)), a.1, (a.1.length : Int), (0 : Int), B, y)) else some true) N (d, (d.length : Int), (0 : Int), h, d))
theorem jdX : mK 29 (bX [.agg [.pv (.sl .str), .pv Y17]] [pB] (c2A (jaj N))) :=
 mO (fC (jtw N) (fC (jY N) (fC (jcM N) (fC (jio N) (fC (jh5 N) ja))))) func29 rfl N (.seq .no (.seq .no (.seq (.seq .no (.block (.loop jmj (.seq .no (.seq .no (.seq (.block (.seq .no (.seq .no (.seq .no (.block (.loop jrC .no)))))) .no)))))) .no))) _
def jtd : Sh := ⟨pS :: dz 4 (pI :: pI :: dz 16 []), []⟩
def jaF (c : List UInt8) : Z7 :=
 (iter (fun i (b, d, a) => bif decide (a < d) then oB (idx b a) fun e => (bif decide ((e.toNat : Int) < 32) then some false else oB (idx b a) fun h => bif decide ((126 : Int) < (h.toNat : Int)) then some false else if fits (a + 1) then i (b, d, (a + 1)) else none) else some (decide ((b.length : Int) <= 160))) N (c, (c.length : Int), (0 : Int)))
theorem jdK : mK 94 (bX [pS] [pB] (c1A (jaF N))) :=
 mO ja func94 rfl N (.seq .no (.seq (.seq .no (.block (.loop jtd .no))) .no)) _
def jlC : Sh := ⟨.dead :: .box 1 0 :: dz 22 (.pv Y20 :: pI :: pI :: dz 66 []), [(1, false, [pI, .pv Y20, .pv Y16])]⟩
def jpt : Sh := ⟨.dead :: .box 1 0 :: dz 57 (.pv Y16 :: pI :: pI :: dz 31 []), [(1, false, [pI, .pv Y20, .pv Y16])]⟩
def jbx (p : Int) (e : Z15) (v : Z9) : Z7 :=
 (oB (jm N p 1 9999) fun A => bif !A then some false else bif decide ((3 : Int) < e.length) then some false else bif decide ((3 : Int) < v.length) then some false else iter (fun r (n, f, b, j, d, c) => bif decide (b < f) then oB (idx n b) fun h => (oB (jO N h.1) fun x => bif !x then some false else oB (jaF N h.2) fun C => bif !C then some false else bif decide ((0 : Int) < b) then if fits (b - 1) then oB (idx d (b - 1)) fun z => (bif !Op.bytesLess z.1 h.1 then some false else if fits (b + 1) then r (n, f, (b + 1), j, d, c) else none) else none else if fits (b + 1) then r (n, f, (b + 1), j, d, c) else none) else iter (fun q (o, k, a, u, t, m) => bif decide (a < k) then oB (idx o a) fun i => (oB (jO N i.1) fun y => bif !y then some false else oB (jm N i.2 0 999999999) fun w => bif !w then some false else bif decide ((0 : Int) < a) then if fits (a - 1) then oB (idx m (a - 1)) fun B => (bif !Op.bytesLess B.1 i.1 then some false else if fits (a + 1) then q (o, k, (a + 1), u, t, m) else none) else none else if fits (a + 1) then q (o, k, (a + 1), u, t, m) else none) else some true) N (c, (c.length : Int), (0 : Int), j, d, c)) N (e, (e.length : Int), (0 : Int), p, e, v))
theorem jh0 : mK 30 (bX [.agg [pI, .pv Y20, .pv Y16]] [pB] (c3A (jbx N))) :=
 mO (fC (jY N) (fC (jcM N) (fC (jdK N) ja))) func30 rfl N (.seq .no (.seq .no (.seq (.seq .no (.block (.loop jlC .no))) (.seq (.seq .no (.block (.loop jpt .no))) .no)))) _
def jpj : Sh := ⟨.pv Y4 :: dz 4 (.pv Y4 :: pI :: pI :: dz 26 []), []⟩
def jbf (f : List Z0) : Z7 :=
 (iter (fun h (c, e, d, a) => bif decide (a < d) then oB (idx e a) fun b => (oB (jbx N b.1 b.2.1 b.2.2) fun j => bif !j then some false else bif decide ((0 : Int) < a) then if fits (a - 1) then oB (idx c (a - 1)) fun i => (bif decide (b.1 <= i.1) then some false else if fits (a + 1) then h (c, e, d, (a + 1)) else none) else none else if fits (a + 1) then h (c, e, d, (a + 1)) else none) else some (decide ((c.length : Int) <= 16))) N (f, f, (f.length : Int), (0 : Int)))
theorem jjU : mK 95 (bX [.pv Y4] [pB] (c1A (jbf N))) :=
 mO (fC (jh0 N) ja) func95 rfl N (.seq .no (.seq (.seq .no (.block (.loop jpj .no))) .no)) _
def jbO (N : Nat) (c : Int) (a : Z15) (b : Z9) : Option Z0 :=
 (if room ([] : Z15).length a.length 32 then if room ([] : Z9).length b.length 24 then some (c, (([] : Z15) ++ a), (([] : Z9) ++ b)) else none else none)
theorem jrI : mK 170 (bX [.agg [pI, .pv Y20, .pv Y16]] [.agg [pI, .own 1 Y21 143 true, .own 2 Y18 145 true]] (c3A (jbO N))) :=
 mO ja func170 rfl N .no _
def joW : Sh := ⟨dz 3 (.own 600003 Y5 44 true :: dz 3 (.pv Y4 :: pI :: pI :: dz 10 [])), []⟩
def jbV (h : List Z0) : Z20 :=
 (iter (fun j (b, d, f, a) => bif decide (a < f) then oB (idx d a) fun c => (oB (jbO N c.1 c.2.1 c.2.2) fun e => if room b.length ([e] : List Z0).length 56 then if fits (a + 1) then j ((b ++ ([e] : List Z0)), d, f, (a + 1)) else none else none) else some b) N (([] : List Z0), h, (h.length : Int), (0 : Int)))
theorem joC : mK 96 (bX [.pv Y4] [.own 1 Y5 44 true] (c1A (jbV N))) :=
 mO (fC (jrI N) ja) func96 rfl N (.seq .no (.seq .no (.seq (.seq .no (.block (.loop joW .no))) .no))) _
def jI (N : Nat) (a : Int) : Z10 :=
 (bif decide ((65 : Int) <= a) then bif decide (a <= 90) then some (IntKind.u8.wrap ((IntKind.u8.wrap (a + 97)) - 65)) else (some a) else some a)
theorem jmu : mK 234 (bX [.pv (.int .u8)] [.pv (.int .u8)] (c1A (jI N))) :=
 mO ja func234 rfl N .no _
def jpB : Sh := ⟨pS :: .dead :: .dead :: .own 600003 Y8 231 true :: pI :: dz 57 [], []⟩
def jo6 : Sh := ⟨pS :: .dead :: .dead :: .own 600003 Y8 231 true :: pI :: .box 5 0 :: .own 600006 (.int .u8) 5 true :: dz 55 [], [(5, false, [pS, pI, pI, pI])]⟩
def jct (o : List UInt8) : Option ((List Z11)) :=
 (oB (jaF N o) fun y => bif !y then some ([] : List Z11) else iter (fun k (j, i, d) => bif decide (d < (j.length : Int)) then oB (idx j d) fun x => (oB (jI N (x.toNat : Int)) fun t => oB (jaw N t) fun z => bif !z then if fits (d + 1) then k (j, i, (d + 1)) else none else iter (fun p (c, e, a, b, m, f, h, q) => bif decide (a < (c.length : Int)) then oB (idx c a) fun v => (oB (jI N (v.toNat : Int)) fun u => oB (jaw N u) fun r => bif r then bif decide ((b.length : Int) < 12) then oB (idx c a) fun w => (oB (jI N (w.toNat : Int)) fun n => if room b.length ([n] : List Int).length 1 then if fits (a + 1) then p (c, e, (a + 1), (b ++ ([n] : List Int)), m, f, h, q) else none else none) else (if fits (a + 1) then p (c, e, (a + 1), b, m, f, h, q) else none) else if room e.length ([((bytesOf b), f, h, a)] : List Z11).length 40 then k (c, (e ++ ([((bytesOf b), f, h, a)] : List Z11)), a) else none) else if room e.length ([((bytesOf b), f, h, a)] : List Z11).length 40 then k (c, (e ++ ([((bytesOf b), f, h, a)] : List Z11)), a) else none) N (j, i, d, ([] : List Int), ([] : List UInt8), (i.length : Int), d, (0 : Int))) else some i) N (o, ([] : List Z11), (0 : Int)))
theorem jqc : mK 171 (bX [pS] [.own 1 Y8 231 true] (c1A (jct N))) :=
 mO (fC (jdK N) (fC (jmu N) (fC (jeK N) ja))) func171 rfl N (.seq .no (.seq .no (.seq .no (.seq (.seq .no (.block (.loop jpB (.seq .no (.block (.seq .no (.seq .no (.seq .no (.seq (.block (.loop jo6 .no)) .no))))))))) .no)))) _
def jty : Sh := ⟨.dead :: .pv Y16 :: pI :: .box 3 0 :: dz 3 (.pv (.opt Y19) :: dz 8 (pI :: pI :: dz 73 [])), [(3, false, [.pv (.sl .str), .pv Y17])]⟩
def jss : Sh := ⟨.dead :: .pv Y16 :: pI :: .box 3 0 :: dz 3 (.pv (.opt Y19) :: .dead :: .ptr Y19 :: pB :: dz 5 (pI :: pI :: dz 31 (pB :: dz 4 (.pv (.sl .str) :: pI :: pI :: dz 34 [])))), [(3, false, [.pv (.sl .str), .pv Y17])]⟩
def jbH (c : List Z2) (c2 : List Z3) (terms : Z9) (at0 : Int) : Option ((Option Z3)) :=
 (iter (fun go (terms2, at02, best, t16, t17, c3, c4) => bif decide (t17 < t16) then oB (idx c4 t17) fun e => (if fits ((terms2.length : Int) - at02) then bif decide (((terms2.length : Int) - at02) < (e.1.length : Int)) then if fits (t17 + 1) then go (terms2, at02, best, t16, (t17 + 1), c3, c4) else none else (bif !(Option.isNone best) then oB best fun p => (bif decide ((e.1.length : Int) <= (p.1.length : Int)) then if fits (t17 + 1) then go (terms2, at02, best, t16, (t17 + 1), c3, c4) else none else iter (fun go2 (terms3, at03, best2, r, fits0, t162, t172, t49, t54, t55, t56, c5, c6) => bif decide (t56 < t55) then oB (idx t54 t56) fun e2 => (if fits (at03 + t56) then oB (idx terms3 (at03 + t56)) fun e3 => (bif fits0 then bif decide (e3.1 = e2) then oB (idx terms3 at03) fun e4 => (if fits (e4.2 + t56) then if fits (t56 + 1) then go2 (terms3, at03, best2, r, (decide (e3.2 = (e4.2 + t56))), t162, t172, t49, t54, t55, (t56 + 1), c5, c6) else none else none) else (if fits (t56 + 1) then go2 (terms3, at03, best2, r, false, t162, t172, t49, t54, t55, (t56 + 1), c5, c6) else none) else if fits (t56 + 1) then go2 (terms3, at03, best2, r, false, t162, t172, t49, t54, t55, (t56 + 1), c5, c6) else none) else none) else bif fits0 then if fits (t172 + 1) then go (terms3, at03, (some r), t162, (t172 + 1), c5, c6) else none else if fits (t172 + 1) then go (terms3, at03, best2, t162, (t172 + 1), c5, c6) else none) N (terms2, at02, best, e, true, t16, t17, (decide ((e.1.length : Int) <= (p.1.length : Int))), e.1, (e.1.length : Int), (0 : Int), c3, c4)) else iter (fun go3 (terms4, at04, best3, r2, fits02, t163, t173, t492, t542, t552, t562, c7, c8) => bif decide (t562 < t552) then oB (idx t542 t562) fun e5 => (if fits (at04 + t562) then oB (idx terms4 (at04 + t562)) fun e6 => (bif fits02 then bif decide (e6.1 = e5) then oB (idx terms4 at04) fun e7 => (if fits (e7.2 + t562) then if fits (t562 + 1) then go3 (terms4, at04, best3, r2, (decide (e6.2 = (e7.2 + t562))), t163, t173, t492, t542, t552, (t562 + 1), c7, c8) else none else none) else (if fits (t562 + 1) then go3 (terms4, at04, best3, r2, false, t163, t173, t492, t542, t552, (t562 + 1), c7, c8) else none) else if fits (t562 + 1) then go3 (terms4, at04, best3, r2, false, t163, t173, t492, t542, t552, (t562 + 1), c7, c8) else none) else none) else bif fits02 then if fits (t173 + 1) then go (terms4, at04, (some r2), t163, (t173 + 1), c7, c8) else none else if fits (t173 + 1) then go (terms4, at04, best3, t163, (t173 + 1), c7, c8) else none) N (terms2, at02, best, e, true, t16, t17, false, e.1, (e.1.length : Int), (0 : Int), c3, c4)) else none) else some best) N (terms, at0, (none : Option Z3), (c2.length : Int), (0 : Int), c, c2))
theorem jtv : mK 172 (bX [.agg [.pv (.sl .str), .pv Y17], .pv Y16, pI] [.pv (.opt Y19)] (c4A (jbH N))) :=
 mO ja func172 rfl N (.seq .no (.seq .no (.seq (.seq .no (.block (.loop jty (.seq .no (.seq .no (.seq (.block (.seq .no (.seq .no (.seq .no (.seq .no (.seq (.seq .no (.block (.loop jss .no))) .no)))))) .no)))))) .no))) _
def jlW : Sh := ⟨.dead :: .dead :: .box 2 0 :: .dead :: .dead :: .own 600005 Y18 151 true :: .own 600006 Y18 151 true :: dz 17 (.own 600024 Y8 231 true :: pI :: pI :: dz 67 []), [(2, false, [.pv (.sl .str), .pv Y17])]⟩
def jnt : Sh := ⟨.dead :: .dead :: .box 2 0 :: .dead :: .dead :: .own 600005 Y18 151 true :: .own 600006 Y18 151 true :: dz 3 (pI :: dz 83 []), [(2, false, [.pv (.sl .str), .pv Y17])]⟩
def jbw (A : List Z2) (x : List Z3) (t : List UInt8) : Option (Z8) :=
 (oB (jaj N A x) fun G => bif !G then some ([] : Z9) else oB (jaF N t) fun D => bif !D then some ([] : Z9) else oB (jct N t) fun B => iter (fun o (k, e, l, i, b, c, h) => bif decide (b < i) then oB (idx l b) fun j => (oB (jaB N j.1) fun m => oB (jao N c j.1) fun C => bif !C then oB (jao N c m) fun E => (bif !E then if room e.length ([(m, j.2.1)] : Z9).length 24 then if fits (b + 1) then o (k, (e ++ ([(m, j.2.1)] : Z9)), l, i, (b + 1), c, h) else none else none else if fits (b + 1) then o (k, e, l, i, (b + 1), c, h) else none) else if fits (b + 1) then o (k, e, l, i, (b + 1), c, h) else none) else iter (fun w (f, d, a, q, p) => bif decide (a < (d.length : Int)) then oB (jbH N q p d a) fun n => (bif Option.isNone n then oB (idx d a) fun u => (if room f.length ([u] : Z9).length 24 then if fits (a + 1) then w ((f ++ ([u] : Z9)), d, (a + 1), q, p) else none else none) else oB n fun z => oB (idx d a) fun y => if room f.length ([(z.2, y.2)] : Z9).length 24 then oB n fun v => (if fits (a + (v.1.length : Int)) then w ((f ++ ([(z.2, y.2)] : Z9)), d, (a + (v.1.length : Int)), q, p) else none) else none) else some f) N (k, e, (0 : Int), c, h)) N (([] : Z9), ([] : Z9), B, (B.length : Int), (0 : Int), A, x))
theorem jgO : mK 97 (bX [.agg [.pv (.sl .str), .pv Y17], pS] [.own 1 Y18 151 true] (c3A (jbw N))) :=
 mO (fC (jdX N) (fC (jdK N) (fC (jqc N) (fC (jio N) (fC (jh5 N) (fC (jtv N) ja)))))) func97 rfl N (.seq .no (.seq .no (.seq .no (.seq .no (.seq (.seq .no (.block (.loop jlW .no))) (.seq (.seq .no (.block (.loop jnt .no))) .no)))))) _
def k__loop_example_fossick_impl_Seg_put_1_m (N : Nat) (b : List UInt8) (c : List UInt8) (e : Z4) (d : List UInt8) (a : Z2 × Int) : Z7 :=
 (bif decide (b = d) then some (decide (c = a.1)) else some false)
theorem jmw : mK 174 (bX [.agg [pS, pS, .pv Y13], .ptr .str, .ptr Y18] [pB] (c5A (k__loop_example_fossick_impl_Seg_put_1_m N))) :=
 mO ja func174 rfl N .no _
def jnc : Sh := ⟨.pv Y6 :: .clo 174 [.ptr .str, .ptr Y18] :: dz 5 (pI :: pI :: dz 10 []), []⟩
def k_slices_IndexFunc_146_m (d : List Z1) (k : Z2 × Z2 × Int) : Z10 :=
 (iter (fun j (f, b, e, a) => bif decide (a < e) then oB (idx f a) fun c => (oB (k__loop_example_fossick_impl_Seg_put_1_m N c.1 c.2.1 c.2.2 b.1 b.2) fun h => bif h then some a else if fits (a + 1) then j (f, b, e, (a + 1)) else none) else some (-1)) N (d, k, (d.length : Int), (0 : Int)))
theorem jrl : mK 173 (bX [.pv Y6, .clo 174 [.ptr .str, .ptr Y18]] [pI] (c2A (k_slices_IndexFunc_146_m N))) :=
 mO (fC (jmw N) ja) func173 rfl N (.seq .no (.seq (.seq .no (.block (.loop jnc .no))) .no)) _
def i_Seg_put_m (f : List UInt8) (h : List UInt8) (i : Int) (e : Int) (n : List Z0) (a : List Z1) : Option ((List Z0) × (List Z1)) :=
 (oB (k_slices_IndexFunc_146_m N a (f, h, i)) fun d => bif decide (d < 0) then if room a.length ([(f, h, ([] : Z4))] : List Z1).length 56 then if 0 <= (a.length : Int) /\ (a.length : Int) < ((a ++ ([(f, h, ([] : Z4))] : List Z1)).length : Int) then oB ((a ++ ([(f, h, ([] : Z4))] : List Z1))[(a.length : Int).toNat]?) fun c => (if fits ((c.2.2.length : Int) - 1) then bif decide (((c.2.2.length : Int) - 1) < 0) then oB ((a ++ ([(f, h, ([] : Z4))] : List Z1))[(a.length : Int).toNat]?) fun ai => (if (a.length : Int).toNat = (a.length : Int).toNat then if room c.2.2.length ([(e, ([] : List Int))] : Z4).length 32 then if (a.length : Int).toNat = (a.length : Int).toNat then oB ((a ++ ([(f, h, ([] : Z4))] : List Z1))[(a.length : Int).toNat]?) fun k => (if fits (((c.2.2.length : Int) - 1) + 1) then oB (((a ++ ([(f, h, ([] : Z4))] : List Z1)).set (a.length : Int).toNat (k.1, k.2.1, (c.2.2 ++ ([(e, ([] : List Int))] : Z4))))[(a.length : Int).toNat]?) fun r => (oB (r.2.2[(((c.2.2.length : Int) - 1) + 1).toNat]?) fun C => oB (((a ++ ([(f, h, ([] : Z4))] : List Z1)).set (a.length : Int).toNat (k.1, k.2.1, (c.2.2 ++ ([(e, ([] : List Int))] : Z4))))[(a.length : Int).toNat]?) fun U => if (a.length : Int).toNat = (a.length : Int).toNat then oB (((a ++ ([(f, h, ([] : Z4))] : List Z1)).set (a.length : Int).toNat (k.1, k.2.1, (c.2.2 ++ ([(e, ([] : List Int))] : Z4))))[(a.length : Int).toNat]?) fun T => (if (a.length : Int).toNat = (a.length : Int).toNat then if 0 <= (((c.2.2.length : Int) - 1) + 1) /\ (((c.2.2.length : Int) - 1) + 1) < (r.2.2.length : Int) then oB (r.2.2[(((c.2.2.length : Int) - 1) + 1).toNat]?) fun al => (if (((c.2.2.length : Int) - 1) + 1).toNat = (((c.2.2.length : Int) - 1) + 1).toNat then if room C.2.length ([i] : List Int).length 8 then if 0 <= (((c.2.2.length : Int) - 1) + 1) /\ (((c.2.2.length : Int) - 1) + 1) < (r.2.2.length : Int) then if (((c.2.2.length : Int) - 1) + 1).toNat = (((c.2.2.length : Int) - 1) + 1).toNat then oB (r.2.2[(((c.2.2.length : Int) - 1) + 1).toNat]?) fun H => (some (n, (((a ++ ([(f, h, ([] : Z4))] : List Z1)).set (a.length : Int).toNat (k.1, k.2.1, (c.2.2 ++ ([(e, ([] : List Int))] : Z4)))).modify ((a.length : Int).toNat) fun w => (w.1, w.2.1, (r.2.2.set (((c.2.2.length : Int) - 1) + 1).toNat (H.1, (C.2 ++ ([i] : List Int)))))))) else none else none else none else none) else none else none) else none) else none) else none else none else none) else (oB ((a ++ ([(f, h, ([] : Z4))] : List Z1))[(a.length : Int).toNat]?) fun R => if (a.length : Int).toNat = (a.length : Int).toNat then if 0 <= ((c.2.2.length : Int) - 1) /\ ((c.2.2.length : Int) - 1) < (c.2.2.length : Int) then oB (c.2.2[((c.2.2.length : Int) - 1).toNat]?) fun O => (bif !decide (O.1 = e) then oB ((a ++ ([(f, h, ([] : Z4))] : List Z1))[(a.length : Int).toNat]?) fun an => (if (a.length : Int).toNat = (a.length : Int).toNat then if room c.2.2.length ([(e, ([] : List Int))] : Z4).length 32 then if (a.length : Int).toNat = (a.length : Int).toNat then oB ((a ++ ([(f, h, ([] : Z4))] : List Z1))[(a.length : Int).toNat]?) fun l => (if fits (((c.2.2.length : Int) - 1) + 1) then oB (((a ++ ([(f, h, ([] : Z4))] : List Z1)).set (a.length : Int).toNat (l.1, l.2.1, (c.2.2 ++ ([(e, ([] : List Int))] : Z4))))[(a.length : Int).toNat]?) fun o => (oB (o.2.2[(((c.2.2.length : Int) - 1) + 1).toNat]?) fun D => oB (((a ++ ([(f, h, ([] : Z4))] : List Z1)).set (a.length : Int).toNat (l.1, l.2.1, (c.2.2 ++ ([(e, ([] : List Int))] : Z4))))[(a.length : Int).toNat]?) fun ae => if (a.length : Int).toNat = (a.length : Int).toNat then oB (((a ++ ([(f, h, ([] : Z4))] : List Z1)).set (a.length : Int).toNat (l.1, l.2.1, (c.2.2 ++ ([(e, ([] : List Int))] : Z4))))[(a.length : Int).toNat]?) fun ak => (if (a.length : Int).toNat = (a.length : Int).toNat then if 0 <= (((c.2.2.length : Int) - 1) + 1) /\ (((c.2.2.length : Int) - 1) + 1) < (o.2.2.length : Int) then oB (o.2.2[(((c.2.2.length : Int) - 1) + 1).toNat]?) fun V => (if (((c.2.2.length : Int) - 1) + 1).toNat = (((c.2.2.length : Int) - 1) + 1).toNat then if room D.2.length ([i] : List Int).length 8 then if 0 <= (((c.2.2.length : Int) - 1) + 1) /\ (((c.2.2.length : Int) - 1) + 1) < (o.2.2.length : Int) then if (((c.2.2.length : Int) - 1) + 1).toNat = (((c.2.2.length : Int) - 1) + 1).toNat then oB (o.2.2[(((c.2.2.length : Int) - 1) + 1).toNat]?) fun L => (some (n, (((a ++ ([(f, h, ([] : Z4))] : List Z1)).set (a.length : Int).toNat (l.1, l.2.1, (c.2.2 ++ ([(e, ([] : List Int))] : Z4)))).modify ((a.length : Int).toNat) fun y => (y.1, y.2.1, (o.2.2.set (((c.2.2.length : Int) - 1) + 1).toNat (L.1, (D.2 ++ ([i] : List Int)))))))) else none else none else none else none) else none else none) else none) else none) else none else none else none) else if (a.length : Int).toNat = (a.length : Int).toNat then oB (c.2.2[((c.2.2.length : Int) - 1).toNat]?) fun A => (oB ((a ++ ([(f, h, ([] : Z4))] : List Z1))[(a.length : Int).toNat]?) fun ah => if (a.length : Int).toNat = (a.length : Int).toNat then oB ((a ++ ([(f, h, ([] : Z4))] : List Z1))[(a.length : Int).toNat]?) fun aj => (if (a.length : Int).toNat = (a.length : Int).toNat then if 0 <= ((c.2.2.length : Int) - 1) /\ ((c.2.2.length : Int) - 1) < (c.2.2.length : Int) then oB (c.2.2[((c.2.2.length : Int) - 1).toNat]?) fun aq => (if ((c.2.2.length : Int) - 1).toNat = ((c.2.2.length : Int) - 1).toNat then if room A.2.length ([i] : List Int).length 8 then if 0 <= ((c.2.2.length : Int) - 1) /\ ((c.2.2.length : Int) - 1) < (c.2.2.length : Int) then if ((c.2.2.length : Int) - 1).toNat = ((c.2.2.length : Int) - 1).toNat then oB (c.2.2[((c.2.2.length : Int) - 1).toNat]?) fun Q => (some (n, ((a ++ ([(f, h, ([] : Z4))] : List Z1)).modify ((a.length : Int).toNat) fun u => (u.1, u.2.1, (c.2.2.set ((c.2.2.length : Int) - 1).toNat (Q.1, (A.2 ++ ([i] : List Int)))))))) else none else none else none else none) else none else none) else none) else none) else none else none) else none) else none else none else if 0 <= d /\ d < (a.length : Int) then oB (a[d.toNat]?) fun b => (if fits ((b.2.2.length : Int) - 1) then bif decide (((b.2.2.length : Int) - 1) < 0) then oB (a[d.toNat]?) fun ab => (if d.toNat = d.toNat then if room b.2.2.length ([(e, ([] : List Int))] : Z4).length 32 then if d.toNat = d.toNat then oB (a[d.toNat]?) fun m => (if fits (((b.2.2.length : Int) - 1) + 1) then oB ((a.set d.toNat (m.1, m.2.1, (b.2.2 ++ ([(e, ([] : List Int))] : Z4))))[d.toNat]?) fun p => (oB (p.2.2[(((b.2.2.length : Int) - 1) + 1).toNat]?) fun v => oB ((a.set d.toNat (m.1, m.2.1, (b.2.2 ++ ([(e, ([] : List Int))] : Z4))))[d.toNat]?) fun ad => if d.toNat = d.toNat then oB ((a.set d.toNat (m.1, m.2.1, (b.2.2 ++ ([(e, ([] : List Int))] : Z4))))[d.toNat]?) fun S => (if d.toNat = d.toNat then if 0 <= (((b.2.2.length : Int) - 1) + 1) /\ (((b.2.2.length : Int) - 1) + 1) < (p.2.2.length : Int) then oB (p.2.2[(((b.2.2.length : Int) - 1) + 1).toNat]?) fun am => (if (((b.2.2.length : Int) - 1) + 1).toNat = (((b.2.2.length : Int) - 1) + 1).toNat then if room v.2.length ([i] : List Int).length 8 then if 0 <= (((b.2.2.length : Int) - 1) + 1) /\ (((b.2.2.length : Int) - 1) + 1) < (p.2.2.length : Int) then if (((b.2.2.length : Int) - 1) + 1).toNat = (((b.2.2.length : Int) - 1) + 1).toNat then oB (p.2.2[(((b.2.2.length : Int) - 1) + 1).toNat]?) fun K => (some (n, ((a.set d.toNat (m.1, m.2.1, (b.2.2 ++ ([(e, ([] : List Int))] : Z4)))).modify d.toNat fun E => (E.1, E.2.1, (p.2.2.set (((b.2.2.length : Int) - 1) + 1).toNat (K.1, (v.2 ++ ([i] : List Int)))))))) else none else none else none else none) else none else none) else none) else none) else none else none else none) else (oB (a[d.toNat]?) fun ao => if d.toNat = d.toNat then if 0 <= ((b.2.2.length : Int) - 1) /\ ((b.2.2.length : Int) - 1) < (b.2.2.length : Int) then oB (b.2.2[((b.2.2.length : Int) - 1).toNat]?) fun I => (bif !decide (I.1 = e) then oB (a[d.toNat]?) fun X => (if d.toNat = d.toNat then if room b.2.2.length ([(e, ([] : List Int))] : Z4).length 32 then if d.toNat = d.toNat then oB (a[d.toNat]?) fun j => (if fits (((b.2.2.length : Int) - 1) + 1) then oB ((a.set d.toNat (j.1, j.2.1, (b.2.2 ++ ([(e, ([] : List Int))] : Z4))))[d.toNat]?) fun q => (oB (q.2.2[(((b.2.2.length : Int) - 1) + 1).toNat]?) fun x => oB ((a.set d.toNat (j.1, j.2.1, (b.2.2 ++ ([(e, ([] : List Int))] : Z4))))[d.toNat]?) fun af => if d.toNat = d.toNat then oB ((a.set d.toNat (j.1, j.2.1, (b.2.2 ++ ([(e, ([] : List Int))] : Z4))))[d.toNat]?) fun ag => (if d.toNat = d.toNat then if 0 <= (((b.2.2.length : Int) - 1) + 1) /\ (((b.2.2.length : Int) - 1) + 1) < (q.2.2.length : Int) then oB (q.2.2[(((b.2.2.length : Int) - 1) + 1).toNat]?) fun W => (if (((b.2.2.length : Int) - 1) + 1).toNat = (((b.2.2.length : Int) - 1) + 1).toNat then if room x.2.length ([i] : List Int).length 8 then if 0 <= (((b.2.2.length : Int) - 1) + 1) /\ (((b.2.2.length : Int) - 1) + 1) < (q.2.2.length : Int) then if (((b.2.2.length : Int) - 1) + 1).toNat = (((b.2.2.length : Int) - 1) + 1).toNat then oB (q.2.2[(((b.2.2.length : Int) - 1) + 1).toNat]?) fun G => (some (n, ((a.set d.toNat (j.1, j.2.1, (b.2.2 ++ ([(e, ([] : List Int))] : Z4)))).modify d.toNat fun B => (B.1, B.2.1, (q.2.2.set (((b.2.2.length : Int) - 1) + 1).toNat (G.1, (x.2 ++ ([i] : List Int)))))))) else none else none else none else none) else none else none) else none) else none) else none else none else none) else if d.toNat = d.toNat then oB (b.2.2[((b.2.2.length : Int) - 1).toNat]?) fun t => (oB (a[d.toNat]?) fun ap => if d.toNat = d.toNat then oB (a[d.toNat]?) fun aa => (if d.toNat = d.toNat then if 0 <= ((b.2.2.length : Int) - 1) /\ ((b.2.2.length : Int) - 1) < (b.2.2.length : Int) then oB (b.2.2[((b.2.2.length : Int) - 1).toNat]?) fun ac => (if ((b.2.2.length : Int) - 1).toNat = ((b.2.2.length : Int) - 1).toNat then if room t.2.length ([i] : List Int).length 8 then if 0 <= ((b.2.2.length : Int) - 1) /\ ((b.2.2.length : Int) - 1) < (b.2.2.length : Int) then if ((b.2.2.length : Int) - 1).toNat = ((b.2.2.length : Int) - 1).toNat then oB (b.2.2[((b.2.2.length : Int) - 1).toNat]?) fun P => (some (n, (a.modify d.toNat fun z => (z.1, z.2.1, (b.2.2.set ((b.2.2.length : Int) - 1).toNat (P.1, (t.2 ++ ([i] : List Int)))))))) else none else none else none else none) else none else none) else none) else none) else none else none) else none) else none)
theorem jky : mK 98 ⟨⟨[.box 900000 0, pS, .agg [pS, pI], pI], [(900000, false, [.pv Y4, .tre 850001 Y7 156])]⟩, ⟨[.tup []], [(900000, false, [.pv Y4, .tre 1 Y7 156])]⟩, c6A (i_Seg_put_m N)⟩ :=
 mO (fC (jrl N) ja) func98 rfl N (.seq .no (.seq .no (.seq .no (.seq .no (.seq .no (.seq .no (.touch [.out 9 [(2, 79, 239, 10), (1, 88, 3, 0)]]))))))) _ (wr := [33, 34, 70, 71, 91, 92]) (rs := [900000, 850001]) (dw := [16, 33, 70])
def jl0 : Sh := ⟨.pv (.int .u64) :: .dead :: pI :: dz 22 [], []⟩
def k_math_bits_Len64_m (N : Nat) (c : Int) : Z10 :=
 (meet (fun (a : Int × Int) => match a with | (e, b) => meet (fun (a : Int × Int) => match a with | (d, f) => meet (fun (a : Int × Int) => match a with | (m, k) => oB (idx ([0, 1, 2, 2, 3, 3, 3, 3, 4, 4, 4, 4, 4, 4, 4, 4, 5, 5, 5, 5, 5, 5, 5, 5, 5, 5, 5, 5, 5, 5, 5, 5, 6, 6, 6, 6, 6, 6, 6, 6, 6, 6, 6, 6, 6, 6, 6, 6, 6, 6, 6, 6, 6, 6, 6, 6, 6, 6, 6, 6, 6, 6, 6, 6, 7, 7, 7, 7, 7, 7, 7, 7, 7, 7, 7, 7, 7, 7, 7, 7, 7, 7, 7, 7, 7, 7, 7, 7, 7, 7, 7, 7, 7, 7, 7, 7, 7, 7, 7, 7, 7, 7, 7, 7, 7, 7, 7, 7, 7, 7, 7, 7, 7, 7, 7, 7, 7, 7, 7, 7, 7, 7, 7, 7, 7, 7, 7, 7, 8, 8, 8, 8, 8, 8, 8, 8, 8, 8, 8, 8, 8, 8, 8, 8, 8, 8, 8, 8, 8, 8, 8, 8, 8, 8, 8, 8, 8, 8, 8, 8, 8, 8, 8, 8, 8, 8, 8, 8, 8, 8, 8, 8, 8, 8, 8, 8, 8, 8, 8, 8, 8, 8, 8, 8, 8, 8, 8, 8, 8, 8, 8, 8, 8, 8, 8, 8, 8, 8, 8, 8, 8, 8, 8, 8, 8, 8, 8, 8, 8, 8, 8, 8, 8, 8, 8, 8, 8, 8, 8, 8, 8, 8, 8, 8, 8, 8, 8, 8, 8, 8, 8, 8, 8, 8, 8, 8, 8, 8, 8, 8, 8, 8, 8, 8, 8, 8, 8, 8, 8, 8, 8, 8, 8, 8, 8, 8] : List UInt8) (IntKind.u8.wrap m)) fun i => if fits (k + (IntKind.i64.wrap (i.toNat : Int))) then some (k + (IntKind.i64.wrap (i.toNat : Int))) else none) fun h => bif decide ((256 : Int) <= d) then if 0 <= (8 : Int) then if fits (f + 8) then h ((d.fdiv (2 ^ (min (8 : Int).toNat (IntKind.bits .u64)))), (f + 8)) else none else none else h (d, f)) fun l => bif decide ((65536 : Int) <= e) then if 0 <= (16 : Int) then if fits (b + 16) then l ((e.fdiv (2 ^ (min (16 : Int).toNat (IntKind.bits .u64)))), (b + 16)) else none else none else l (e, b)) fun j => bif decide ((4294967296 : Int) <= c) then if 0 <= (32 : Int) then j ((c.fdiv (2 ^ (min (32 : Int).toNat (IntKind.bits .u64)))), 32) else none else j (c, 0))
theorem jrK : mK 244 (bX [.pv (.int .u64)] [pI] (c1A (k_math_bits_Len64_m N))) :=
 mO ja func244 rfl N (.seq .no (.meet jl0 .no (.meet jl0 .no (.meet jl0 .no .no)))) _
def k_math_bits_Len_m (a : Int) : Z10 :=
 (oB (k_math_bits_Len64_m N a) fun b => some b)
theorem jda : mK 176 (bX [.pv (.int .u64)] [pI] (c1A (k_math_bits_Len_m N))) :=
 mO (fC (jrK N) ja) func176 rfl N .no _
def jbn (N : Nat) (a : List UInt8) : Z7 :=
 (some (!decide (a = a)))
theorem jkt : mK 177 (bX [pS] [pB] (c1A (jbn N))) :=
 mO ja func177 rfl N .no _
def jam (b : List UInt8) (a : List UInt8) : Z10 :=
 (oB (jbn N b) fun d => oB (jbn N a) fun c => bif d then bif c then some 0 else (some (-1)) else bif c then some 1 else bif Op.bytesLess b a then some (-1) else bif !(Op.bytesLess b a || decide (b = a)) then some 1 else some 0)
theorem ji2 : mK 102 (bX [pS, pS] [pI] (c2A (jam N))) :=
 mO (fC (jkt N) ja) func102 rfl N .no _
def jlp : Sh := ⟨dz 3 (pI :: .dead :: .dead :: .pv Y22 :: pI :: pI :: dz 9 []), []⟩
def jbe (c : List Int) : Z10 :=
 (iter (fun i (b, f, d, a) => bif decide (a < d) then oB (idx f a) fun e => (bif !decide (e = b) then some e else if fits (a + 1) then i (b, f, d, (a + 1)) else none) else some b) N ((0 : Int), c, (c.length : Int), (0 : Int)))
theorem jhC : mK 101 (bX [.pv Y22] [pI] (c1A (jbe N))) :=
 mO ja func101 rfl N (.seq .no (.seq .no (.seq (.seq .no (.block (.loop jlp .no))) .no))) _
def je (e : List UInt8) (c : List UInt8) (j : Z4) (b : List UInt8) (f : List UInt8) (i : Z4) : Z10 :=
 (oB (jam N e b) fun d => oB (jam N c f) fun a => oB (jbe N ([d, a] : List Int)) fun h => some h)
theorem jaf : mK 100 (bX [.agg [pS, pS, .pv Y13], .agg [pS, pS, .pv Y13]] [pI] (c6A (je N))) :=
 mO (fC (ji2 N) (fC (jhC N) ja)) func100 rfl N .no _
def k_slices_nextPowerOfTwo_m (b : Int) : Z10 :=
 (oB (k_math_bits_Len_m N (IntKind.u64.wrap b)) fun a => if 0 <= a then some (IntKind.u64.wrap ((1 : Int) * 2 ^ (min a.toNat (IntKind.bits .u64)))) else none)
theorem jhv : mK 287 (bX [pI] [.pv (.int .u64)] (c1A (k_slices_nextPowerOfTwo_m N))) :=
 mO (fC (jda N) ja) func287 rfl N .no _
def k__slices_xorshift_Next_m (N : Nat) (a : Int) : Option (Int × Int) :=
 (if 0 <= (13 : Int) then if 0 <= (7 : Int) then if 0 <= (17 : Int) then some ((bitsI .xor .u64 (bitsI .xor .u64 (bitsI .xor .u64 a (IntKind.u64.wrap (a * 2 ^ (min (13 : Int).toNat (IntKind.bits .u64))))) ((bitsI .xor .u64 a (IntKind.u64.wrap (a * 2 ^ (min (13 : Int).toNat (IntKind.bits .u64))))).fdiv (2 ^ (min (7 : Int).toNat (IntKind.bits .u64))))) (IntKind.u64.wrap ((bitsI .xor .u64 (bitsI .xor .u64 a (IntKind.u64.wrap (a * 2 ^ (min (13 : Int).toNat (IntKind.bits .u64))))) ((bitsI .xor .u64 a (IntKind.u64.wrap (a * 2 ^ (min (13 : Int).toNat (IntKind.bits .u64))))).fdiv (2 ^ (min (7 : Int).toNat (IntKind.bits .u64))))) * 2 ^ (min (17 : Int).toNat (IntKind.bits .u64))))), (bitsI .xor .u64 (bitsI .xor .u64 (bitsI .xor .u64 a (IntKind.u64.wrap (a * 2 ^ (min (13 : Int).toNat (IntKind.bits .u64))))) ((bitsI .xor .u64 a (IntKind.u64.wrap (a * 2 ^ (min (13 : Int).toNat (IntKind.bits .u64))))).fdiv (2 ^ (min (7 : Int).toNat (IntKind.bits .u64))))) (IntKind.u64.wrap ((bitsI .xor .u64 (bitsI .xor .u64 a (IntKind.u64.wrap (a * 2 ^ (min (13 : Int).toNat (IntKind.bits .u64))))) ((bitsI .xor .u64 a (IntKind.u64.wrap (a * 2 ^ (min (13 : Int).toNat (IntKind.bits .u64))))).fdiv (2 ^ (min (7 : Int).toNat (IntKind.bits .u64))))) * 2 ^ (min (17 : Int).toNat (IntKind.bits .u64)))))) else none else none else none)
theorem jet : mK 288 ⟨⟨[.box 900000 0], [(900000, false, [.pv (.int .u64)])]⟩, ⟨[.pv (.int .u64)], [(900000, false, [.pv (.int .u64)])]⟩, c1A (k__slices_xorshift_Next_m N)⟩ :=
 mO ja func288 rfl N .no _ (rs := [900000])
section
variable {Y γ ρ : Type} (c : γ -> Y -> Y -> Option Int)
def swpG (d : List Y) (i j : Int) (k : List Y -> Option ρ) : Option ρ :=
 if 0 <= j /\ j < (d.length : Int) then oB (d[j.toNat]?) fun e => if 0 <= i /\ i < (d.length : Int) then oB (d[i.toNat]?) fun e2 =>
  if 0 <= i /\ i < (d.length : Int) then oB (d[i.toNat]?) fun e3 => if 0 <= j /\ j < ((d.set i.toNat e).length : Int) then oB ((d.set i.toNat e)[j.toNat]?) fun e4 => k ((d.set i.toNat e).set j.toNat e2)
  else none else none else none else none
def cmpG (ks : γ) (d : List Y) (i j : Int) (k : Int -> Option ρ) : Option ρ :=
 if 0 <= i /\ i < (d.length : Int) then oB (d[i.toNat]?) fun e => if 0 <= j /\ j < (d.length : Int) then oB (d[j.toNat]?) fun e2 => oB (c ks e e2) k else none else none
def cmpP (ks : γ) (d : List Y) (j : Int) (k : Int -> Option ρ) : Option ρ :=
 if 0 <= j /\ j < (d.length : Int) then oB (d[j.toNat]?) fun e => if fits (j - 1) then if 0 <= (j - 1) /\ (j - 1) < (d.length : Int) then oB (d[(j - 1).toNat]?) fun e2 => oB (c ks e e2) k else none else none else none
def swpP (d : List Y) (j : Int) (k : List Y -> Option ρ) : Option ρ := if fits (j - 1) then if fits (j - 1) then swpG d j (j - 1) k else none else none
def insG (N : Nat) (d : List Y) (a b : Int) (ks : γ) : Option (List Y) :=
 if fits (a + 1) then iter (fun go (g : List Y × Int × Int × γ × Int) =>
  match g with
  | (d2, a2, b2, ks2, i) =>
  bif decide (i < b2) then
   iter (fun go2 (g : List Y × Int × Int × γ × Int × Int) =>
    match g with
    | (d3, a3, b3, ks3, i2, j) =>
    bif decide (a3 < j) then cmpP c ks3 d3 j fun r => bif decide (r < 0) then swpP d3 j fun d => if fits (j - 1) then go2 (d, a3, b3, ks3, i2, j - 1) else none
     else if fits (i2 + 1) then go (d3, a3, b3, ks3, i2 + 1) else none
    else if fits (i2 + 1) then go (d3, a3, b3, ks3, i2 + 1) else none) N (d2, a2, b2, ks2, i, i)
  else some d2) N (d, a, b, ks, a + 1) else none
def siftG (N : Nat) (data : List Y) (lo : Int) (hi : Int) (first : Int) (cmp : γ) : Option ((List Y)) :=
 (iter (fun go (g : (List Y) × Int × Int × γ × Int) => 
   match g with
   | (data2, hi2, first2, cmp2, root) =>
   (if fits (2 * root) then (if fits ((2 * root) + 1) then (bif (decide (hi2 <= ((2 * root) + 1))) then
      (some data2)
      else
      (meet (fun (g : (List Y) × Int × Int × γ × Int × Int) => 
        match g with
        | (data3, hi3, first3, cmp3, root2, child) =>
        (if fits (first3 + root2) then (if 0 <= (first3 + root2) /\ (first3 + root2) < (data3.length : Int) then
          (oB (data3[(first3 + root2).toNat]?) fun e3 =>
           (if fits (first3 + child) then (if 0 <= (first3 + child) /\ (first3 + child) < (data3.length : Int) then
             (oB (data3[(first3 + child).toNat]?) fun e4 =>
              (oB (c cmp3 e3 e4) fun r2 =>
               (bif (!(decide (r2 < 0))) then
                (some data3)
                else
                (if fits (first3 + root2) then (if fits (first3 + child) then (if fits (first3 + child) then (if 0 <= (first3 + child) /\ (first3 + child) < (data3.length : Int) then
                    (oB (data3[(first3 + child).toNat]?) fun e5 =>
                     (if fits (first3 + root2) then (if 0 <= (first3 + root2) /\ (first3 + root2) < (data3.length : Int) then
                       (oB (data3[(first3 + root2).toNat]?) fun e6 =>
                        (if 0 <= (first3 + root2) /\ (first3 + root2) < (data3.length : Int) then
                         (oB (data3[(first3 + root2).toNat]?) fun e7 =>
                          (if 0 <= (first3 + child) /\ (first3 + child) < ((data3.set (first3 + root2).toNat e5).length : Int) then
                           (oB ((data3.set (first3 + root2).toNat e5)[(first3 + child).toNat]?) fun e8 =>
                            (go (((data3.set (first3 + root2).toNat e5).set (first3 + child).toNat e6), hi3, first3, cmp3, child)))
                           else none))
                         else none))
                       else none) else none))
                    else none) else none) else none) else none))))
             else none) else none))
          else none) else none)) fun J =>
       (if fits (((2 * root) + 1) + 1) then (bif (decide ((((2 * root) + 1) + 1) < hi2)) then
         (if fits (first2 + ((2 * root) + 1)) then (if 0 <= (first2 + ((2 * root) + 1)) /\ (first2 + ((2 * root) + 1)) < (data2.length : Int) then
           (oB (data2[(first2 + ((2 * root) + 1)).toNat]?) fun e =>
            (if fits (first2 + ((2 * root) + 1)) then (if fits ((first2 + ((2 * root) + 1)) + 1) then (if 0 <= ((first2 + ((2 * root) + 1)) + 1) /\ ((first2 + ((2 * root) + 1)) + 1) < (data2.length : Int) then
               (oB (data2[((first2 + ((2 * root) + 1)) + 1).toNat]?) fun e2 =>
                (oB (c cmp2 e e2) fun r =>
                 (bif (decide (r < 0)) then
                  (if fits (((2 * root) + 1) + 1) then (J (data2, hi2, first2, cmp2, root, (((2 * root) + 1) + 1))) else none)
                  else
                  (J (data2, hi2, first2, cmp2, root, ((2 * root) + 1))))))
               else none) else none) else none))
           else none) else none)
         else
         (J (data2, hi2, first2, cmp2, root, ((2 * root) + 1)))) else none))) else none) else none)) N (data, hi, first, cmp, lo))
def heapG (N : Nat) (data : List Y) (a : Int) (b : Int) (cmp : γ) : Option ((List Y)) :=
 (if fits (b - a) then (if fits ((b - a) - 1) then (if 2 ≠ 0 then
    (if fits (((b - a) - 1).tdiv 2) then (iter (fun go (g : (List Y) × γ × Int × Int × Int × Int) => 
       match g with
       | (data2, cmp2, first, lo, hi, i) =>
       (bif (decide ((0 : Int) <= i)) then
        (oB (siftG c N data2 i hi first cmp2) fun r =>
         (if fits (i - 1) then (go (r, cmp2, first, lo, hi, (i - 1))) else none))
        else
        (if fits (hi - 1) then (iter (fun go2 (g : (List Y) × γ × Int × Int × Int) => 
           match g with
           | (data3, cmp3, first2, lo2, i2) =>
           (bif (decide ((0 : Int) <= i2)) then
            (if fits (first2 + i2) then (if fits (first2 + i2) then swpG data3 first2 (first2 + i2) fun d => (oB (siftG c N d lo2 i2 first2 cmp3) fun r2 =>
                       (if fits (i2 - 1) then (go2 (r2, cmp3, first2, lo2, (i2 - 1))) else none)) else none) else none)
            else
            (some data3))) N (data2, cmp2, first, lo, (hi - 1))) else none))) N (data, cmp, a, 0, (b - a), (((b - a) - 1).tdiv 2))) else none)
    else none) else none) else none)
def breakG (N : Nat) (data : List Y) (a : Int) (b : Int) (cmp : γ) : Option (List Y) :=
 (if fits (b - a) then (bif (decide ((8 : Int) <= (b - a))) then
   (oB (k_slices_nextPowerOfTwo_m N (b - a)) fun r =>
    (if 4 ≠ 0 then
     (if fits ((b - a).tdiv 4) then (if fits (((b - a).tdiv 4) * 2) then (if fits (a + (((b - a).tdiv 4) * 2)) then (if fits ((a + (((b - a).tdiv 4) * 2)) - 1) then (iter (fun go (g : (List Y) × Int × Int × Int × Int × Int) => 
           match g with
           | (data2, a2, length, modulus, idx0, random) =>
           (if 4 ≠ 0 then
            (if fits (length.tdiv 4) then (if fits ((length.tdiv 4) * 2) then (if fits (a2 + ((length.tdiv 4) * 2)) then (if fits ((a2 + ((length.tdiv 4) * 2)) + 1) then (bif (decide (idx0 <= ((a2 + ((length.tdiv 4) * 2)) + 1))) then
                 (oB (k__slices_xorshift_Next_m N random) fun r2 =>
                  (meet (fun (g : (List Y) × Int × Int × Int × Int × Int × Int) => 
                    match g with
                    | (data3, a3, length2, modulus2, idx02, other, random2) =>
                    (if fits (a3 + other) then (if fits (a3 + other) then swpG data3 idx02 (a3 + other) fun d => (if fits (idx02 + 1) then (go (d, a3, length2, modulus2, (idx02 + 1), random2)) else none) else none) else none)) fun J =>
                   (bif (decide (length <= (IntKind.i64.wrap (bitsI .and .u64 r2.1 (IntKind.u64.wrap (modulus - 1)))))) then
                    (if fits ((IntKind.i64.wrap (bitsI .and .u64 r2.1 (IntKind.u64.wrap (modulus - 1)))) - length) then (J (data2, a2, length, modulus, idx0, ((IntKind.i64.wrap (bitsI .and .u64 r2.1 (IntKind.u64.wrap (modulus - 1)))) - length), r2.2)) else none)
                    else
                    (J (data2, a2, length, modulus, idx0, (IntKind.i64.wrap (bitsI .and .u64 r2.1 (IntKind.u64.wrap (modulus - 1)))), r2.2)))))
                 else
                 (some data2)) else none) else none) else none) else none)
            else none)) N (data, a, (b - a), r, ((a + (((b - a).tdiv 4) * 2)) - 1), (IntKind.u64.wrap (b - a)))) else none) else none) else none) else none)
     else none))
   else
   (some data)) else none)
def order2G (N : Nat) (data : List Y) (a : Int) (b : Int) (cmp : γ) (b2 : Int) : Option (Int × Int × (List Y) × Int) :=
 cmpG c cmp data b a fun r => (bif (decide (r < 0)) then (if fits (b2 + 1) then (some (b, a, data, (b2 + 1))) else none) else (some (a, b, data, b2)))
def medianG (N : Nat) (data : List Y) (a : Int) (b : Int) (c0 : Int) (cmp : γ) (b2 : Int) : Option (Int × (List Y) × Int) :=
 (oB (order2G c N data a b cmp b2) fun r =>
  (oB (order2G c N r.2.2.1 r.2.1 c0 cmp r.2.2.2) fun r2 =>
   (oB (order2G c N r2.2.2.1 r.1 r2.1 cmp r2.2.2.2) fun r3 =>
    (some (r3.2.1, r3.2.2.1, r3.2.2.2)))))
def medianAdjacentG (N : Nat) (data : List Y) (a : Int) (cmp : γ) (b : Int) : Option (Int × (List Y) × Int) :=
 (if fits (a - 1) then (if fits (a + 1) then (oB (medianG c N data (a - 1) a (a + 1) cmp b) fun r =>
    (some (r.1, r.2.1, r.2.2))) else none) else none)
def choosePivotG (N : Nat) (data : List Y) (a : Int) (b : Int) (cmp : γ) : Option (Int × Int × (List Y)) :=
 (if fits (b - a) then (if 4 ≠ 0 then
   (if fits ((b - a).tdiv 4) then (if fits (((b - a).tdiv 4) * 1) then (if fits (a + (((b - a).tdiv 4) * 1)) then (if 4 ≠ 0 then
       (if fits ((b - a).tdiv 4) then (if fits (((b - a).tdiv 4) * 2) then (if fits (a + (((b - a).tdiv 4) * 2)) then (if 4 ≠ 0 then
           (if fits ((b - a).tdiv 4) then (if fits (((b - a).tdiv 4) * 3) then (if fits (a + (((b - a).tdiv 4) * 3)) then (meet (fun (g : (List Y) × Int × Int) => 
                match g with
                | (data3, j2, swaps2) =>
                (bif (decide (swaps2 = 0)) then
                 (some (j2, 1, data3))
                 else
                 (bif (decide (swaps2 = 12)) then
                  (some (j2, 2, data3))
                  else
                  (some (j2, 0, data3))))) fun J =>
               (bif (decide ((8 : Int) <= (b - a))) then
                (meet (fun (g : (List Y) × γ × Int × Int × Int × Int) => 
                  match g with
                  | (data2, cmp2, i, j, k, swaps) =>
                  (oB (medianG c N data2 i j k cmp2 swaps) fun r4 =>
                   (J (r4.2.1, r4.1, r4.2.2)))) fun J2 =>
                 (bif (decide ((50 : Int) <= (b - a))) then
                  (oB (medianAdjacentG c N data (a + (((b - a).tdiv 4) * 1)) cmp 0) fun r =>
                   (oB (medianAdjacentG c N r.2.1 (a + (((b - a).tdiv 4) * 2)) cmp r.2.2) fun r2 =>
                    (oB (medianAdjacentG c N r2.2.1 (a + (((b - a).tdiv 4) * 3)) cmp r2.2.2) fun r3 =>
                     (J2 (r3.2.1, cmp, r.1, r2.1, r3.1, r3.2.2)))))
                  else
                  (J2 (data, cmp, (a + (((b - a).tdiv 4) * 1)), (a + (((b - a).tdiv 4) * 2)), (a + (((b - a).tdiv 4) * 3)), 0))))
                else
                (J (data, (a + (((b - a).tdiv 4) * 2)), 0)))) else none) else none) else none)
           else none) else none) else none) else none)
       else none) else none) else none) else none)
   else none) else none)
def reverseRangeG (N : Nat) (data : List Y) (a : Int) (b : Int) (cmp : γ) : Option ((List Y)) :=
 (if fits (b - 1) then (iter (fun go (g : (List Y) × Int × Int) => 
    match g with
    | (data2, i, j) =>
    (bif (decide (i < j)) then swpG data2 i j fun d => (if fits (i + 1) then (if fits (j - 1) then (go (d, (i + 1), (j - 1))) else none) else none)
     else
     (some data2))) N (data, a, (b - 1))) else none)
def shDown (k : (List Y × Int × Int × γ × Int × Int) -> Option ρ) (N : Nat) (g : List Y × Int × Int × γ × Int × Int × Int) : Option ρ :=
 iter (fun go3 (g : (List Y) × Int × Int × γ × Int × Int × Int) =>
  match g with
  | (d, a, b, ks, i, j, j4) =>
  bif decide ((1 : Int) <= j4) then cmpP c ks d j4 fun r => bif !decide (r < 0) then k (d, a, b, ks, i, j) else swpP d j4 fun d' => if fits (j4 - 1) then go3 (d', a, b, ks, i, j, j4 - 1) else none
  else k (d, a, b, ks, i, j)) N g
def shUp (k : (List Y × Int × Int × γ × Int × Int) -> Option ρ) (N : Nat) (g : List Y × Int × Int × γ × Int × Int × Int) : Option ρ :=
 iter (fun go4 (g : (List Y) × Int × Int × γ × Int × Int × Int) =>
  match g with
  | (d, a, b, ks, i, j, j4) =>
  bif decide (j4 < b) then cmpP c ks d j4 fun r => bif !decide (r < 0) then (if fits (j + 1) then k (d, a, b, ks, i, j + 1) else none) else swpP d j4 fun d' => if fits (j4 + 1) then go4 (d', a, b, ks, i, j, j4 + 1) else none
  else if fits (j + 1) then k (d, a, b, ks, i, j + 1) else none) N g
def pisX (N : Nat) (go : (List Y × Int × Int × γ × Int × Int) -> Option (Bool × List Y)) (d : List Y) (a b : Int) (ks : γ) (i j : Int) : Option (Bool × List Y) :=
 bif decide (i = b) then some (true, d) else if fits (b - a) then bif decide ((b - a) < 50) then some (false, d) else
  swpP d i fun d' => meet (fun (g : List Y × Int × Int × γ × Int × Int) =>
   match g with
   | (d5, a5, b5, ks5, i4, j5) =>
   if fits (b5 - i4) then bif decide ((2 : Int) <= (b5 - i4)) then if fits (i4 + 1) then shUp c go N (d5, a5, b5, ks5, i4, j5, i4 + 1) else none
    else (if fits (j5 + 1) then go (d5, a5, b5, ks5, i4, j5 + 1) else none) else none) fun J =>
   if fits (i - a) then bif decide ((2 : Int) <= (i - a)) then if fits (i - 1) then shDown c J N (d', a, b, ks, i, j, i - 1) else none else J (d', a, b, ks, i, j) else none
 else none
def pisG (N : Nat) (d : List Y) (a b : Int) (ks : γ) : Option (Bool × List Y) :=
 if fits (a + 1) then iter (fun go (g : List Y × Int × Int × γ × Int × Int) =>
  match g with
  | (d2, a2, b2, ks2, i, j) =>
  bif decide (j < 5) then
   iter (fun go2 (g : List Y × Int × Int × γ × Int × Int) =>
    match g with
    | (d3, a3, b3, ks3, i2, j2) =>
    bif decide (i2 < b3) then cmpP c ks3 d3 i2 fun r => bif !decide (r < 0) then (if fits (i2 + 1) then go2 (d3, a3, b3, ks3, i2 + 1, j2) else none) else pisX c N go d3 a3 b3 ks3 i2 j2
    else pisX c N go d3 a3 b3 ks3 i2 j2) N (d2, a2, b2, ks2, i, j)
  else some (false, d2)) N (d, a, b, ks, a + 1, 0) else none
def partE (go3 : (List Y × Int × γ × Int × Int) -> Option (Int × Bool × List Y)) (fl : Bool) (g : List Y × Int × γ × Int × Int) : Option (Int × Bool × List Y) :=
 match g with
 | (d, a, ks, i, j) =>
 bif decide (j < i) then swpG d j a fun d' => some (j, fl, d') else swpG d i j fun d' => if fits (i + 1) then if fits (j - 1) then go3 (d', a, ks, i + 1, j - 1) else none else none
def partD (k : (List Y × Int × γ × Int × Int) -> Option ρ) (N : Nat) (g : List Y × Int × γ × Int × Int) : Option ρ :=
 iter (fun go (g : List Y × Int × γ × Int × Int) =>
  match g with
  | (d, a, ks, i, j) =>
  bif decide (i <= j) then cmpG c ks d j a fun r => bif !decide (r < 0) then (if fits (j - 1) then go (d, a, ks, i, j - 1) else none) else k (d, a, ks, i, j)
  else k (d, a, ks, i, j)) N g
def partU (k : (List Y × Int × γ × Int × Int) -> Option ρ) (N : Nat) (g : List Y × Int × γ × Int × Int) : Option ρ :=
 iter (fun go (g : List Y × Int × γ × Int × Int) =>
  match g with
  | (d, a, ks, i, j) =>
  bif decide (i <= j) then cmpG c ks d i a fun r => bif decide (r < 0) then (if fits (i + 1) then go (d, a, ks, i + 1, j) else none) else k (d, a, ks, i, j)
  else k (d, a, ks, i, j)) N g
def partG (N : Nat) (d : List Y) (a b p : Int) (ks : γ) : Option (Int × Bool × List Y) :=
 swpG d a p fun d => if fits (a + 1) then if fits (b - 1) then
  partU c (fun g => partD c (partE (fun g => iter (fun go3 g => partU c (fun g => partD c (partE go3 false) N g) N g) N g) true) N g) N (d, a, ks, a + 1, b - 1)
 else none else none
def peqE (go : (List Y × Int × γ × Int × Int) -> Option (Int × List Y)) (g : List Y × Int × γ × Int × Int) : Option (Int × List Y) :=
 match g with
 | (d, a, ks, i, j) =>
 bif decide (j < i) then some (i, d) else swpG d i j fun d' => if fits (i + 1) then if fits (j - 1) then go (d', a, ks, i + 1, j - 1) else none else none
def peqD (k : (List Y × Int × γ × Int × Int) -> Option ρ) (N : Nat) (g : List Y × Int × γ × Int × Int) : Option ρ :=
 iter (fun go (g : List Y × Int × γ × Int × Int) =>
  match g with
  | (d, a, ks, i, j) =>
  bif decide (i <= j) then cmpG c ks d a j fun r => bif decide (r < 0) then (if fits (j - 1) then go (d, a, ks, i, j - 1) else none) else k (d, a, ks, i, j)
  else k (d, a, ks, i, j)) N g
def peqU (k : (List Y × Int × γ × Int × Int) -> Option ρ) (N : Nat) (g : List Y × Int × γ × Int × Int) : Option ρ :=
 iter (fun go (g : List Y × Int × γ × Int × Int) =>
  match g with
  | (d, a, ks, i, j) =>
  bif decide (i <= j) then cmpG c ks d a i fun r => bif !decide (r < 0) then (if fits (i + 1) then go (d, a, ks, i + 1, j) else none) else k (d, a, ks, i, j)
  else k (d, a, ks, i, j)) N g
def peqG (N : Nat) (d : List Y) (a b p : Int) (ks : γ) : Option (Int × List Y) :=
 swpG d a p fun d => if fits (a + 1) then if fits (b - 1) then iter (fun go g => peqU c (fun g => peqD c (peqE go) N g) N g) N (d, a, ks, a + 1, b - 1) else none else none
def pdqG (hs : List Y -> Int -> Int -> γ -> Option (List Y)) (pe : List Y -> Int -> Int -> Int -> γ -> Option (Int × List Y)) (N : Nat) : (D : Nat) -> (List Y) -> Int -> Int -> Int -> γ -> Option ((List Y))
 | 0, _, _, _, _, _ => none
 | D + 1, data, a, b, limit, cmp =>
 (iter (fun go (g : (List Y) × Int × Int × Int × γ × Bool × Bool) => 
   match g with
   | (data2, a2, b2, limit2, cmp2, wasBalanced, wasPartitioned) =>
   (if fits (b2 - a2) then (bif (decide ((b2 - a2) <= 12)) then
     (oB (insG c N data2 a2 b2 cmp2) fun r =>
      (some r))
     else
     (bif (decide (limit2 = 0)) then
      (oB (hs data2 a2 b2 cmp2) fun r2 =>
       (some r2))
      else
      (meet (fun (g : (List Y) × Int × Int × Int × γ × Bool × Bool × Int) => 
        match g with
        | (data3, a3, b3, limit3, cmp3, wasBalanced2, wasPartitioned2, length) =>
        (oB (choosePivotG c N data3 a3 b3 cmp3) fun r4 =>
         (meet (fun (g : (List Y) × Int × Int × Int × γ × Bool × Bool × Int × Int × Int) => 
           match g with
           | (data4, a4, b4, limit4, cmp4, wasBalanced3, wasPartitioned3, length2, pivot, hint) =>
           (meet (fun (g : (List Y) × Int × Int × Int × γ × Bool × Bool × Int × Int) => 
             match g with
             | (data5, a5, b5, limit5, cmp5, wasBalanced4, wasPartitioned4, length3, pivot2) =>
             (bif (decide ((0 : Int) < a5)) then
              (if fits (a5 - 1) then (if 0 <= (a5 - 1) /\ (a5 - 1) < (data5.length : Int) then
                (oB (data5[(a5 - 1).toNat]?) fun e =>
                 (if 0 <= pivot2 /\ pivot2 < (data5.length : Int) then
                  (oB (data5[pivot2.toNat]?) fun e2 =>
                   (oB (c cmp5 e e2) fun r7 =>
                    (bif (!(decide (r7 < 0))) then
                     (oB (pe data5 a5 b5 pivot2 cmp5) fun r8 =>
                      (go (r8.2, r8.1, b5, limit5, cmp5, wasBalanced4, wasPartitioned4)))
                     else
                     (oB (partG c N data5 a5 b5 pivot2 cmp5) fun r9 =>
                      (if fits (r9.1 - a5) then (if fits (b5 - r9.1) then (if 8 ≠ 0 then
                         (if fits (length3.tdiv 8) then (bif (decide ((r9.1 - a5) < (b5 - r9.1))) then
                           (oB (pdqG hs pe N D r9.2.2 a5 r9.1 limit5 cmp5) fun r10 =>
                            (if fits (r9.1 + 1) then (go (r10, (r9.1 + 1), b5, limit5, cmp5, (decide ((length3.tdiv 8) <= (r9.1 - a5))), r9.2.1)) else none))
                           else
                           (if fits (r9.1 + 1) then (oB (pdqG hs pe N D r9.2.2 (r9.1 + 1) b5 limit5 cmp5) fun r11 =>
                             (go (r11, a5, r9.1, limit5, cmp5, (decide ((length3.tdiv 8) <= (b5 - r9.1))), r9.2.1))) else none)) else none)
                         else none) else none) else none)))))
                  else none))
                else none) else none)
              else
              (oB (partG c N data5 a5 b5 pivot2 cmp5) fun r12 =>
               (if fits (r12.1 - a5) then (if fits (b5 - r12.1) then (if 8 ≠ 0 then
                  (if fits (length3.tdiv 8) then (bif (decide ((r12.1 - a5) < (b5 - r12.1))) then
                    (oB (pdqG hs pe N D r12.2.2 a5 r12.1 limit5 cmp5) fun r13 =>
                     (if fits (r12.1 + 1) then (go (r13, (r12.1 + 1), b5, limit5, cmp5, (decide ((length3.tdiv 8) <= (r12.1 - a5))), r12.2.1)) else none))
                    else
                    (if fits (r12.1 + 1) then (oB (pdqG hs pe N D r12.2.2 (r12.1 + 1) b5 limit5 cmp5) fun r14 =>
                      (go (r14, a5, r12.1, limit5, cmp5, (decide ((length3.tdiv 8) <= (b5 - r12.1))), r12.2.1))) else none)) else none)
                  else none) else none) else none)))) fun J3 =>
            (bif wasBalanced3 then
             (bif wasPartitioned3 then
              (bif (decide (hint = 1)) then
               (oB (pisG c N data4 a4 b4 cmp4) fun r6 =>
                (bif r6.1 then
                 (some r6.2)
                 else
                 (J3 (r6.2, a4, b4, limit4, cmp4, wasBalanced3, wasPartitioned3, length2, pivot))))
               else
               (J3 (data4, a4, b4, limit4, cmp4, wasBalanced3, wasPartitioned3, length2, pivot)))
              else
              (J3 (data4, a4, b4, limit4, cmp4, wasBalanced3, wasPartitioned3, length2, pivot)))
             else
             (J3 (data4, a4, b4, limit4, cmp4, wasBalanced3, wasPartitioned3, length2, pivot))))) fun J2 =>
          (bif (decide (r4.2.1 = 2)) then
           (oB (reverseRangeG N r4.2.2 a3 b3 cmp3) fun r5 =>
            (if fits (b3 - 1) then (if fits (r4.1 - a3) then (if fits ((b3 - 1) - (r4.1 - a3)) then (J2 (r5, a3, b3, limit3, cmp3, wasBalanced2, wasPartitioned2, length, ((b3 - 1) - (r4.1 - a3)), 1)) else none) else none) else none))
           else
           (J2 (r4.2.2, a3, b3, limit3, cmp3, wasBalanced2, wasPartitioned2, length, r4.1, r4.2.1)))))) fun J =>
       (bif (!wasBalanced) then
        (oB (breakG N data2 a2 b2 cmp2) fun r3 =>
         (if fits (limit2 - 1) then (J (r3, a2, b2, (limit2 - 1), cmp2, wasBalanced, wasPartitioned, (b2 - a2))) else none))
        else
        (J (data2, a2, b2, limit2, cmp2, wasBalanced, wasPartitioned, (b2 - a2))))))) else none)) N (data, a, b, limit, cmp, true, true))
end
def cmp105 (N : Nat) : (Unit) -> Z1 -> Z1 -> Option Int := (fun (cmp : Unit) (e e2 : Z2 × Z2 × Z13) => je N e.1 e.2.1 e.2.2 e2.1 e2.2.1 e2.2.2)
def jny : Sh := ⟨.mtk 800000 Y7 156 false :: pI :: pI :: .clo 100 [] :: dz 4 (pI :: dz 44 []), []⟩
def jll : Sh := ⟨.mtk 800000 Y7 156 false :: pI :: pI :: .clo 100 [] :: dz 4 (pI :: pI :: dz 43 []), []⟩
def jeC (a : List Z1) (b : Int) (c : Int) (d : Unit) : Option ((List Z1)) := insG (cmp105 N) N a b c d
 
theorem jqw : mK 235 (bX [.mtk 800000 Y7 156 false, pI, pI, .clo 100 []] [.tup [], .mtk 800000 Y7 156 false] (c4A (jeC N))) :=
 mO (fC (jaf N) ja) func235 rfl N (.seq .no (.block (.loop jny (.seq .no (.seq (.block (.seq .no (.block (.loop jll .no)))) .no))))) _ (rs := [800000])
end Go.Proofs.YtfgcmhhacfkhcaaGreatDoor
