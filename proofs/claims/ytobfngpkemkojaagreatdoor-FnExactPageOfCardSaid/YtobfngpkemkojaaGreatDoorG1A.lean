import Derived.Test.YtobfngpkemkojaaGreatDoorSJ
set_option linter.unusedVariables false
set_option linter.unusedSimpArgs false
namespace Go.Proofs.YtobfngpkemkojaaGreatDoor
open Go.RowKit
open Option renaming bind → oB
set_option maxRecDepth 1000000
abbrev Z0 : Type := List UInt8
abbrev Z1 : Type := Z0 × Z0 × (List (Int × (List Int)))
abbrev Z2 : Type := Int × (List (Z0 × Z0)) × (List (Z0 × Int))
abbrev Z3 : Type := List (Int × (List Int))
abbrev Z4 : Type := (List Z0) × Z0
abbrev Z5 : Type := List (Int × Int)
abbrev Z6 : Type := List (Int × Int)
abbrev Z7 : Type := List (Z0 × Int)
abbrev Z8 : Type := Option (Bool)
abbrev Z9 : Type := List (Z0 × Int)
abbrev Z10 : Type := Z0 × Int × Int × Int
abbrev Z11 : Type := Option (Int)
abbrev Z12 : Type := List (Int × (List Int))
abbrev Z13 : Type := List (Z0 × Z0)
abbrev Z14 : Type := ((List Z0) × (List Z4)) × (List Z2) × (List Z1)
abbrev Z15 : Type := Int × Z0 × (List Z0) × Int × Int × (List DQ)
abbrev Z16 : Type := List (Z0 × Z0)
abbrev Z17 : Type := Int × Z0 × (List Z0) × Int × Int × (List DQ) × Int × Z0 × (List Z0) × Int × Int × (List DQ)
abbrev Z18 : Type := List (List Int)
abbrev Z19 : Type := Z0 × Z0 × (List Int) × Int × Int × Int
abbrev Z20 : Type := Int × Int × Z0 × (List Z0) × Int × Int × (List DQ) × Bool × Int × Int × Int × Int × Bool × Int × Int
abbrev Z22 : Type := Int × Z0 × (List Z0) × Int × Int × (List DQ) × Int
abbrev mK := ModelOk Tryz.prog
theorem mO {l : List (Nat × Model)} (hl : jR Tryz.prog l) {f : FuncId} {fn : Func} {c : Code} (hf : Tryz.prog.funcs[f]? = some fn) (hbody : fn.body = some c) (N : Nat) (h : Hint) (m : Model) (wr rs dw : List Nat := [])
  (hname : (fn.name == "runtime.NumGoroutine") = false := by kernel_rfl) (hres : m.arg.names.all (jbC l wr rs dw).res = true := by kernel_rfl) (hlen : Nat.ble m.arg.vals.length fn.ntmps = true := by kernel_rfl)
  (hrun : ∀ a, m.run a = runF N (jbC l wr rs dw) okDraw fn c h m.arg m.ret a := by intro a; kernel_rfl) : ModelOk Tryz.prog f m := modelOk_of (E := jbC l wr rs dw) (jtQ hl wr rs dw) hf hname hbody N h m hres hlen hrun
theorem fC {k : Nat} {m : Model} {l : List (Nat × Model)} (h : ModelOk Tryz.prog k m) (hl : jR Tryz.prog l) : jR Tryz.prog ((k, m) :: l) := jsH h hl
abbrev pI : VS := .pv (.int .i64)
abbrev pS : VS := .pv .str
abbrev pB : VS := .pv .bool
abbrev tI : Tp := .int .i64
abbrev c1A {α ρ : Type} (f : α → ρ) (a : α) : ρ := f a
abbrev c2A {α0 α1 ρ : Type} (f : α0 → α1 → ρ) (a : α0 × α1) : ρ := f a.1 a.2
abbrev c3A {α0 α1 α2 ρ : Type} (f : α0 → α1 → α2 → ρ) (a : α0 × α1 × α2) : ρ := f a.1 a.2.1 a.2.2
abbrev c4A {α0 α1 α2 α3 ρ : Type} (f : α0 → α1 → α2 → α3 → ρ) (a : α0 × α1 × α2 × α3) : ρ := f a.1 a.2.1 a.2.2.1 a.2.2.2
abbrev c5A {α0 α1 α2 α3 α4 ρ : Type} (f : α0 → α1 → α2 → α3 → α4 → ρ) (a : α0 × α1 × α2 × α3 × α4) : ρ := f a.1 a.2.1 a.2.2.1 a.2.2.2.1 a.2.2.2.2
abbrev c6A {α0 α1 α2 α3 α4 α5 ρ : Type} (f : α0 → α1 → α2 → α3 → α4 → α5 → ρ) (a : α0 × α1 × α2 × α3 × α4 × α5) : ρ := f a.1 a.2.1 a.2.2.1 a.2.2.2.1 a.2.2.2.2.1 a.2.2.2.2.2
abbrev c7A {α0 α1 α2 α3 α4 α5 α6 ρ : Type} (f : α0 → α1 → α2 → α3 → α4 → α5 → α6 → ρ) (a : α0 × α1 × α2 × α3 × α4 × α5 × α6) : ρ := f a.1 a.2.1 a.2.2.1 a.2.2.2.1 a.2.2.2.2.1 a.2.2.2.2.2.1 a.2.2.2.2.2.2
abbrev c9A {α0 α1 α2 α3 α4 α5 α6 α7 α8 ρ : Type} (f : α0 → α1 → α2 → α3 → α4 → α5 → α6 → α7 → α8 → ρ) (a : α0 × α1 × α2 × α3 × α4 × α5 × α6 × α7 × α8) : ρ := f a.1 a.2.1 a.2.2.1 a.2.2.2.1 a.2.2.2.2.1 a.2.2.2.2.2.1 a.2.2.2.2.2.2.1 a.2.2.2.2.2.2.2.1 a.2.2.2.2.2.2.2.2
abbrev c10A {α0 α1 α2 α3 α4 α5 α6 α7 α8 α9 ρ : Type} (f : α0 → α1 → α2 → α3 → α4 → α5 → α6 → α7 → α8 → α9 → ρ) (a : α0 × α1 × α2 × α3 × α4 × α5 × α6 × α7 × α8 × α9) : ρ := f a.1 a.2.1 a.2.2.1 a.2.2.2.1 a.2.2.2.2.1 a.2.2.2.2.2.1 a.2.2.2.2.2.2.1 a.2.2.2.2.2.2.2.1 a.2.2.2.2.2.2.2.2.1 a.2.2.2.2.2.2.2.2.2
abbrev c11A {α0 α1 α2 α3 α4 α5 α6 α7 α8 α9 α10 ρ : Type} (f : α0 → α1 → α2 → α3 → α4 → α5 → α6 → α7 → α8 → α9 → α10 → ρ) (a : α0 × α1 × α2 × α3 × α4 × α5 × α6 × α7 × α8 × α9 × α10) : ρ := f a.1 a.2.1 a.2.2.1 a.2.2.2.1 a.2.2.2.2.1 a.2.2.2.2.2.1 a.2.2.2.2.2.2.1 a.2.2.2.2.2.2.2.1 a.2.2.2.2.2.2.2.2.1 a.2.2.2.2.2.2.2.2.2.1 a.2.2.2.2.2.2.2.2.2.2
abbrev c12A {α0 α1 α2 α3 α4 α5 α6 α7 α8 α9 α10 α11 ρ : Type} (f : α0 → α1 → α2 → α3 → α4 → α5 → α6 → α7 → α8 → α9 → α10 → α11 → ρ) (a : α0 × α1 × α2 × α3 × α4 × α5 × α6 × α7 × α8 × α9 × α10 × α11) : ρ := f a.1 a.2.1 a.2.2.1 a.2.2.2.1 a.2.2.2.2.1 a.2.2.2.2.2.1 a.2.2.2.2.2.2.1 a.2.2.2.2.2.2.2.1 a.2.2.2.2.2.2.2.2.1 a.2.2.2.2.2.2.2.2.2.1 a.2.2.2.2.2.2.2.2.2.2.1 a.2.2.2.2.2.2.2.2.2.2.2
def dz : Nat → List VS → List VS
 | 0, l => l
 | n + 1, l => .dead :: dz n l
abbrev Y21 : Tp := .sl tI
abbrev Y20 : Tp := .pair .str .str
abbrev Y19 : Tp := .sl (.pair .str .str)
abbrev Y18 : Tp := .pair (.sl .str) .str
abbrev Y17 : Tp := .pair .str tI
abbrev Y16 : Tp := .sl (.pair (.sl .str) .str)
abbrev Y15 : Tp := .sl (.pair .str tI)
abbrev Y14 : Tp := .pair tI tI
abbrev Y13 : Tp := .sl (.pair tI tI)
abbrev Y12 : Tp := .pair tI (.sl tI)
abbrev Y11 : Tp := .sl (.pair tI (.sl tI))
abbrev Y6 : Tp := .pair .str (.pair tI (.pair tI tI))
abbrev Y5 : Tp := .pair .str (.pair .str (.sl (.pair tI (.sl tI))))
abbrev Y4 : Tp := .sl (.pair .str (.pair .str (.sl (.pair tI (.sl tI)))))
abbrev Y3 : Tp := .pair tI (.pair (.sl (.pair .str .str)) (.sl (.pair .str tI)))
abbrev Y2 : Tp := .sl (.pair tI (.pair (.sl (.pair .str .str)) (.sl (.pair .str tI))))
abbrev Y1 : Tp := .pair (.sl (.pair tI (.pair (.sl (.pair .str .str)) (.sl (.pair .str tI))))) (.sl (.pair .str (.pair .str (.sl (.pair tI (.sl tI))))))
abbrev Y0 : Tp := .pair (.pair (.sl .str) (.sl (.pair (.sl .str) .str))) (.pair (.sl (.pair tI (.pair (.sl (.pair .str .str)) (.sl (.pair .str tI))))) (.sl (.pair .str (.pair .str (.sl (.pair tI (.sl tI)))))))
def jso : Sh := ⟨.pv (.sl .str) :: pI :: dz 3 (pI :: dz 22 []), []⟩
def jbK (N : Nat) (a : List Z0) (e : Int) : Z11 :=
 (if fits (e - (a.length : Int)) then bif decide ((e - (a.length : Int)) < 0) then some (-1) else (iter (fun h (d, c, b) => bif decide (b < (d.length : Int)) then oB (idx d b) fun f => (if fits (c - (f.length : Int)) then bif decide ((c - (f.length : Int)) < 0) then some (-1) else (if fits (b + 1) then h (d, (c - (f.length : Int)), (b + 1)) else none) else none) else some c) N (a, (e - (a.length : Int)), (0 : Int))) else none)
theorem jjn (N : Nat) : mK 43 ⟨⟨[.pv (.sl .str), pI], []⟩, ⟨[pI], []⟩, c2A (jbK N)⟩ :=
 mO ja Tryz.func43 rfl N (.seq .no (.seq .no (.seq .no (.seq (.seq .no (.block (.loop jso .no))) .no)))) _
def jbp (N : Nat) (d : List Z0) (b : List UInt8) (c : Int) : Z11 :=
 (oB (jbK N d c) fun a => bif decide (a < 0) then some (-1) else if fits (a - (b.length : Int)) then bif decide ((a - (b.length : Int)) < 0) then some (-1) else (some (a - (b.length : Int))) else none)
theorem jsV (N : Nat) : mK 82 ⟨⟨[.agg [.pv (.sl .str), pS], pI], []⟩, ⟨[pI], []⟩, c3A (jbp N)⟩ :=
 mO (fC (jjn N) ja) Tryz.func82 rfl N .no _
def jki : Sh := ⟨.pv Y16 :: pI :: dz 3 (pI :: dz 21 []), []⟩
def jc6 (N : Nat) (a : List Z4) (d : Int) : Z11 :=
 (if fits (d - (a.length : Int)) then bif decide ((d - (a.length : Int)) < 0) then some (-1) else (iter (fun i (c, e, b) => bif decide (b < (c.length : Int)) then oB (idx c b) fun h => (oB (jbp N h.1 h.2 e) fun f => bif decide (f < 0) then some (-1) else if fits (b + 1) then i (c, f, (b + 1)) else none) else some e) N (a, (d - (a.length : Int)), (0 : Int))) else none)
theorem jkX (N : Nat) : mK 44 ⟨⟨[.pv Y16, pI], []⟩, ⟨[pI], []⟩, c2A (jc6 N)⟩ :=
 mO (fC (jsV N) ja) Tryz.func44 rfl N (.seq .no (.seq .no (.seq .no (.seq (.seq .no (.block (.loop jki .no))) .no)))) _
def l_szConf_m (N : Nat) (d : List Z0) (e : List Z4) (c : Int) : Z11 :=
 (oB (jbK N d c) fun b => bif decide (b < 0) then some (-1) else oB (jc6 N e b) fun a => bif decide (a < 0) then some (-1) else some a)
theorem jm8 (N : Nat) : mK 9 ⟨⟨[.agg [.pv (.sl .str), .pv Y16], pI], []⟩, ⟨[pI], []⟩, c3A (l_szConf_m N)⟩ :=
 mO (fC (jjn N) (fC (jkX N) ja)) Tryz.func9 rfl N .no _
def jaN (N : Nat) (b : List UInt8) (c : List UInt8) (a : Int) : Z11 :=
 (if fits (a - (b.length : Int)) then bif decide ((a - (b.length : Int)) < 0) then some (-1) else (if fits ((a - (b.length : Int)) - (c.length : Int)) then bif decide (((a - (b.length : Int)) - (c.length : Int)) < 0) then some (-1) else (some ((a - (b.length : Int)) - (c.length : Int))) else none) else none)
theorem jpy (N : Nat) : mK 178 ⟨⟨[.agg [pS, pS], pI], []⟩, ⟨[pI], []⟩, c3A (jaN N)⟩ :=
 mO ja Tryz.func178 rfl N .no _
def jms : Sh := ⟨.pv Y19 :: pI :: dz 3 (pI :: dz 21 []), []⟩
def jdb (N : Nat) (a : Z16) (d : Int) : Z11 :=
 (if fits (d - (a.length : Int)) then bif decide ((d - (a.length : Int)) < 0) then some (-1) else (iter (fun i (c, e, b) => bif decide (b < (c.length : Int)) then oB (idx c b) fun h => (oB (jaN N h.1 h.2 e) fun f => bif decide (f < 0) then some (-1) else if fits (b + 1) then i (c, f, (b + 1)) else none) else some e) N (a, (d - (a.length : Int)), (0 : Int))) else none)
theorem jns (N : Nat) : mK 124 ⟨⟨[.pv Y19, pI], []⟩, ⟨[pI], []⟩, c2A (jdb N)⟩ :=
 mO (fC (jpy N) ja) Tryz.func124 rfl N (.seq .no (.seq .no (.seq .no (.seq (.seq .no (.block (.loop jms .no))) .no)))) _
def jaT (N : Nat) (b : List UInt8) (c : Int) (a : Int) : Z11 :=
 (if fits (a - (b.length : Int)) then bif decide ((a - (b.length : Int)) < 0) then some (-1) else (some (a - (b.length : Int))) else none)
theorem joe (N : Nat) : mK 179 ⟨⟨[.agg [pS, pI], pI], []⟩, ⟨[pI], []⟩, c3A (jaT N)⟩ :=
 mO ja Tryz.func179 rfl N .no _
def jkA : Sh := ⟨.pv Y15 :: pI :: dz 3 (pI :: dz 21 []), []⟩
def jdV (N : Nat) (a : Z9) (d : Int) : Z11 :=
 (if fits (d - (a.length : Int)) then bif decide ((d - (a.length : Int)) < 0) then some (-1) else (iter (fun i (c, e, b) => bif decide (b < (c.length : Int)) then oB (idx c b) fun h => (oB (jaT N h.1 h.2 e) fun f => bif decide (f < 0) then some (-1) else if fits (b + 1) then i (c, f, (b + 1)) else none) else some e) N (a, (d - (a.length : Int)), (0 : Int))) else none)
theorem jn5 (N : Nat) : mK 125 ⟨⟨[.pv Y15, pI], []⟩, ⟨[pI], []⟩, c2A (jdV N)⟩ :=
 mO (fC (joe N) ja) Tryz.func125 rfl N (.seq .no (.seq .no (.seq .no (.seq (.seq .no (.block (.loop jkA .no))) .no)))) _
def jbq (N : Nat) (f : Int) (e : Z16) (d : Z9) (c : Int) : Z11 :=
 (oB (jdb N e c) fun b => bif decide (b < 0) then some (-1) else oB (jdV N d b) fun a => bif decide (a < 0) then some (-1) else some a)
theorem jnC (N : Nat) : mK 83 ⟨⟨[.agg [pI, .pv Y19, .pv Y15], pI], []⟩, ⟨[pI], []⟩, c4A (jbq N)⟩ :=
 mO (fC (jns N) (fC (jn5 N) ja)) Tryz.func83 rfl N .no _
def jqA : Sh := ⟨.pv Y2 :: pI :: dz 3 (pI :: dz 21 []), []⟩
def jdo (N : Nat) (a : List Z2) (d : Int) : Z11 :=
 (if fits (d - (a.length : Int)) then bif decide ((d - (a.length : Int)) < 0) then some (-1) else (iter (fun i (c, f, b) => bif decide (b < (c.length : Int)) then oB (idx c b) fun e => (oB (jbq N e.1 e.2.1 e.2.2 f) fun h => bif decide (h < 0) then some (-1) else if fits (b + 1) then i (c, h, (b + 1)) else none) else some f) N (a, (d - (a.length : Int)), (0 : Int))) else none)
theorem jsn (N : Nat) : mK 45 ⟨⟨[.pv Y2, pI], []⟩, ⟨[pI], []⟩, c2A (jdo N)⟩ :=
 mO (fC (jnC N) ja) Tryz.func45 rfl N (.seq .no (.seq .no (.seq .no (.seq (.seq .no (.block (.loop jqA .no))) .no)))) _
def jeb (N : Nat) (b : List Int) (a : Int) : Z11 :=
 (if fits (a - (b.length : Int)) then bif decide ((a - (b.length : Int)) < 0) then some (-1) else (some (a - (b.length : Int))) else none)
theorem jm4 (N : Nat) : mK 232 ⟨⟨[.pv Y21, pI], []⟩, ⟨[pI], []⟩, c2A (jeb N)⟩ :=
 mO ja Tryz.func232 rfl N .no _
def jbb (N : Nat) (d : Int) (c : List Int) (b : Int) : Z11 :=
 (oB (jeb N c b) fun a => bif decide (a < 0) then some (-1) else some a)
theorem jsZ (N : Nat) : mK 180 ⟨⟨[.agg [pI, .pv Y21], pI], []⟩, ⟨[pI], []⟩, c3A (jbb N)⟩ :=
 mO (fC (jm4 N) ja) Tryz.func180 rfl N .no _
def joP : Sh := ⟨.pv Y11 :: pI :: dz 3 (pI :: dz 21 []), []⟩
def jdz (N : Nat) (a : Z3) (d : Int) : Z11 :=
 (if fits (d - (a.length : Int)) then bif decide ((d - (a.length : Int)) < 0) then some (-1) else (iter (fun i (c, e, b) => bif decide (b < (c.length : Int)) then oB (idx c b) fun h => (oB (jbb N h.1 h.2 e) fun f => bif decide (f < 0) then some (-1) else if fits (b + 1) then i (c, f, (b + 1)) else none) else some e) N (a, (d - (a.length : Int)), (0 : Int))) else none)
theorem jnZ (N : Nat) : mK 126 ⟨⟨[.pv Y11, pI], []⟩, ⟨[pI], []⟩, c2A (jdz N)⟩ :=
 mO (fC (jsZ N) ja) Tryz.func126 rfl N (.seq .no (.seq .no (.seq .no (.seq (.seq .no (.block (.loop joP .no))) .no)))) _
def jbj (N : Nat) (a : List UInt8) (c : List UInt8) (e : Z3) (b : Int) : Z11 :=
 (if fits (b - (a.length : Int)) then bif decide ((b - (a.length : Int)) < 0) then some (-1) else (if fits ((b - (a.length : Int)) - (c.length : Int)) then bif decide (((b - (a.length : Int)) - (c.length : Int)) < 0) then some (-1) else (oB (jdz N e ((b - (a.length : Int)) - (c.length : Int))) fun d => bif decide (d < 0) then some (-1) else some d) else none) else none)
theorem joB (N : Nat) : mK 84 ⟨⟨[.agg [pS, pS, .pv Y11], pI], []⟩, ⟨[pI], []⟩, c4A (jbj N)⟩ :=
 mO (fC (jnZ N) ja) Tryz.func84 rfl N .no _
def jtA : Sh := ⟨.pv Y4 :: pI :: dz 3 (pI :: dz 21 []), []⟩
def jej (N : Nat) (a : List Z1) (d : Int) : Z11 :=
 (if fits (d - (a.length : Int)) then bif decide ((d - (a.length : Int)) < 0) then some (-1) else (iter (fun i (c, f, b) => bif decide (b < (c.length : Int)) then oB (idx c b) fun e => (oB (jbj N e.1 e.2.1 e.2.2 f) fun h => bif decide (h < 0) then some (-1) else if fits (b + 1) then i (c, h, (b + 1)) else none) else some f) N (a, (d - (a.length : Int)), (0 : Int))) else none)
theorem jrU (N : Nat) : mK 46 ⟨⟨[.pv Y4, pI], []⟩, ⟨[pI], []⟩, c2A (jej N)⟩ :=
 mO (fC (joB N) ja) Tryz.func46 rfl N (.seq .no (.seq .no (.seq .no (.seq (.seq .no (.block (.loop jtA .no))) .no)))) _
def l_szSeg_m (N : Nat) (d : List Z2) (e : List Z1) (c : Int) : Z11 :=
 (oB (jdo N d c) fun b => bif decide (b < 0) then some (-1) else oB (jej N e b) fun a => bif decide (a < 0) then some (-1) else some a)
theorem jpO (N : Nat) : mK 10 ⟨⟨[.agg [.pv Y2, .pv Y4], pI], []⟩, ⟨[pI], []⟩, c3A (l_szSeg_m N)⟩ :=
 mO (fC (jsn N) (fC (jrU N) ja)) Tryz.func10 rfl N .no _
def jzT : Sh := ⟨[.agg [pI, pS, .pv (.sl .str), pI, pI, .pv (.sl .q)], pI], []⟩
def jAp : Sh := ⟨[pI], []⟩
def jDq : Sh := ⟨[.pv (.sl .q), pI], []⟩
def jCU : Sh := ⟨[pI], []⟩
def jBx : Sh := ⟨.pv (.sl .q) :: pI :: dz 3 (pI :: dz 21 []), []⟩
def jzK (N : Nat) (i : Z22 → Option Int) (b : List DQ) (e : Int) : Z11 :=
 (if fits (e - (b.length : Int)) then bif decide ((e - (b.length : Int)) < 0) then some (-1) else (iter (fun j (d, f, c) => bif decide (c < (d.length : Int)) then oB (idx d c) fun a => (oB (i (a.kind, a.field, a.words, a.lo, a.hi, a.kids, f)) fun h => bif decide (h < 0) then some (-1) else if fits (c + 1) then j (d, h, (c + 1)) else none) else some f) N (b, (e - (b.length : Int)), (0 : Int))) else none)
def jAt (N : Nat) (F : Z22 → Option Int) : Model := ⟨jDq, jCU, fun a => jzK N F a.1 a.2⟩
theorem jCA (N : Nat) (F : Z22 → Option Int) (hF : mK 11 ⟨jzT, jAp, F⟩) : mK 47 (jAt N F) :=
 mO (fC hF ja) Tryz.func47 rfl N (.seq .no (.seq .no (.seq .no (.seq (.seq .no (.block (.loop jBx .no))) .no)))) (jAt N F)
def l_szQuery_m (N : Nat) : (D : Nat) → Int → Z0 → (List Z0) → Int → Int → (List DQ) → Int → Z11
 | 0, _, _, _, _, _, _, _ => none
 | D + 1, a, a2, a3, a4, a5, a6, left =>
 if fits (left - (a2.length : Int)) then bif decide ((left - (a2.length : Int)) < 0) then
 some (-1)
 else
 (oB (jbK N a3 (left - (a2.length : Int))) fun r =>
 bif decide (r < 0) then
 some (-1)
 else
 oB (jzK N (fun a => l_szQuery_m N D a.1 a.2.1 a.2.2.1 a.2.2.2.1 a.2.2.2.2.1 a.2.2.2.2.2.1 a.2.2.2.2.2.2) a6 r) fun r2 =>
 bif decide (r2 < 0) then
 some (-1)
 else
 some r2) else none
def jya (N D : Nat) : Model := ⟨jzT, jAp, c7A (l_szQuery_m N D)⟩
theorem jBb (N D : Nat) (ih : mK 11 (jya N D)) : mK 11 (jya N (D + 1)) :=
 mO (fC ih (fC (jjn N) (fC (jCA N _ ih) ja))) Tryz.func11 rfl N .no (jya N (D + 1))
theorem jzH (N : Nat) : ∀ D, mK 11 (jya N D)
 | 0 => modelOk_none ⟨_, Tryz.func11, by decide, by kernel_rfl⟩ _ (fun a => rfl)
 | D + 1 => jBb N D (jzH N D)
def jqD : Sh := ⟨.pv (.sl .str) :: .dead :: .dead :: .mtk 600003 .str 9 true :: pI :: dz 17 [], []⟩
def jci (N : Nat) (b : List Z0) : Option ((List Z0)) :=
 (if (b.length : Int) = (b.length : Int) ∧ 0 ≤ (b.length : Int) ∧ (b.length : Int) * 16 ≤ 140737488355328 ∧ (b.length : Int) ≤ 140737488355328 then iter (fun e (d, c, a) => bif decide (a < (d.length : Int)) then oB (idx d a) fun h => (if 0 ≤ a ∧ a < (c.length : Int) then oB (c[a.toNat]?) fun i => (if fits (a + 1) then e (d, (c.set a.toNat h), (a + 1)) else none) else none) else some c) N (b, (List.replicate (b.length : Int).toNat ([] : List UInt8)), (0 : Int)) else none)
theorem jiJ (N : Nat) : mK 52 ⟨⟨[.pv (.sl .str)], []⟩, ⟨[.own 1 .str 9 true], []⟩, c1A (jci N)⟩ :=
 mO ja Tryz.func52 rfl N (.seq .no (.seq .no (.seq (.seq .no (.block (.loop jqD .no))) .no))) _ (wr := [7])
def ja0 (N : Nat) (a : List Z0) (c : List UInt8) : Option Z4 :=
 (oB (jci N a) fun b => some (b, c))
theorem jr7 (N : Nat) : mK 97 ⟨⟨[.agg [.pv (.sl .str), pS]], []⟩, ⟨[.agg [.own 1 .str 9 true, pS]], []⟩, c2A (ja0 N)⟩ :=
 mO (fC (jiJ N) ja) Tryz.func97 rfl N .no _ (dw := [6])
def jos : Sh := ⟨.pv Y16 :: .dead :: .dead :: .tre 600003 Y18 144 :: pI :: dz 18 [], []⟩
def jeh (N : Nat) (b : List Z4) : Option ((List Z4)) :=
 (if (b.length : Int) = (b.length : Int) ∧ 0 ≤ (b.length : Int) ∧ (b.length : Int) * 40 ≤ 140737488355328 ∧ (b.length : Int) ≤ 140737488355328 then iter (fun f (d, c, a) => bif decide (a < (d.length : Int)) then oB (idx d a) fun e => (oB (ja0 N e.1 e.2) fun i => if 0 ≤ a ∧ a < (c.length : Int) then oB (c[a.toNat]?) fun j => (if fits (a + 1) then f (d, (c.set a.toNat i), (a + 1)) else none) else none) else some c) N (b, (List.replicate (b.length : Int).toNat (([] : List Z0), ([] : List UInt8))), (0 : Int)) else none)
theorem jqR (N : Nat) : mK 53 ⟨⟨[.pv Y16], []⟩, ⟨[.own 1 Y18 144 true], []⟩, c1A (jeh N)⟩ :=
 mO (fC (jr7 N) ja) Tryz.func53 rfl N (.seq .no (.seq .no (.seq (.seq .no (.block (.loop jos .no))) .no))) _ (wr := [7]) (dw := [20])
def jad (N : Nat) (b : List Z0) (d : List Z4) : Option ((List Z0) × (List Z4)) :=
 (oB (jci N b) fun c => oB (jeh N d) fun a => some (c, a))
theorem jtJ (N : Nat) : mK 13 ⟨⟨[.agg [.pv (.sl .str), .pv Y16]], []⟩, ⟨[.agg [.own 1 .str 9 true, .own 2 Y18 144 true]], []⟩, c2A (jad N)⟩ :=
 mO (fC (jiJ N) (fC (jqR N) ja)) Tryz.func13 rfl N .no _ (dw := [6, 10])
def jaW (N : Nat) (b : List UInt8) (a : List UInt8) : Option (Z0 × Z0) :=
 (some (b, a))
theorem jlT (N : Nat) : mK 196 ⟨⟨[.agg [pS, pS]], []⟩, ⟨[.agg [pS, pS]], []⟩, c2A (jaW N)⟩ :=
 mO ja Tryz.func196 rfl N .no _
def jp2 : Sh := ⟨.pv Y19 :: .dead :: .dead :: .mtk 600003 Y20 199 true :: pI :: dz 18 [], []⟩
def jdS (N : Nat) (b : Z16) : Option (Z13) :=
 (if (b.length : Int) = (b.length : Int) ∧ 0 ≤ (b.length : Int) ∧ (b.length : Int) * 32 ≤ 140737488355328 ∧ (b.length : Int) ≤ 140737488355328 then iter (fun f (d, c, a) => bif decide (a < (d.length : Int)) then oB (idx d a) fun e => (oB (jaW N e.1 e.2) fun i => if 0 ≤ a ∧ a < (c.length : Int) then oB (c[a.toNat]?) fun j => (if fits (a + 1) then f (d, (c.set a.toNat i), (a + 1)) else none) else none) else some c) N (b, (List.replicate (b.length : Int).toNat (([] : List UInt8), ([] : List UInt8))), (0 : Int)) else none)
theorem jmr (N : Nat) : mK 148 ⟨⟨[.pv Y19], []⟩, ⟨[.own 1 Y20 199 true], []⟩, c1A (jdS N)⟩ :=
 mO (fC (jlT N) ja) Tryz.func148 rfl N (.seq .no (.seq .no (.seq (.seq .no (.block (.loop jp2 .no))) .no))) _ (wr := [7]) (dw := [20])
def jaX (N : Nat) (b : List UInt8) (a : Int) : Option (Z0 × Int) :=
 (some (b, a))
theorem jnE (N : Nat) : mK 197 ⟨⟨[.agg [pS, pI]], []⟩, ⟨[.agg [pS, pI]], []⟩, c2A (jaX N)⟩ :=
 mO ja Tryz.func197 rfl N .no _
def jpn : Sh := ⟨.pv Y15 :: .dead :: .dead :: .mtk 600003 Y17 192 true :: pI :: dz 18 [], []⟩
def jd3 (N : Nat) (b : Z9) : Option (Z7) :=
 (if (b.length : Int) = (b.length : Int) ∧ 0 ≤ (b.length : Int) ∧ (b.length : Int) * 24 ≤ 140737488355328 ∧ (b.length : Int) ≤ 140737488355328 then iter (fun f (d, c, a) => bif decide (a < (d.length : Int)) then oB (idx d a) fun e => (oB (jaX N e.1 e.2) fun i => if 0 ≤ a ∧ a < (c.length : Int) then oB (c[a.toNat]?) fun j => (if fits (a + 1) then f (d, (c.set a.toNat i), (a + 1)) else none) else none) else some c) N (b, (List.replicate (b.length : Int).toNat (([] : List UInt8), 0)), (0 : Int)) else none)
theorem jqJ (N : Nat) : mK 149 ⟨⟨[.pv Y15], []⟩, ⟨[.own 1 Y17 192 true], []⟩, c1A (jd3 N)⟩ :=
 mO (fC (jnE N) ja) Tryz.func149 rfl N (.seq .no (.seq .no (.seq (.seq .no (.block (.loop jpn .no))) .no))) _ (wr := [7]) (dw := [20])
def jbv (N : Nat) (b : Int) (e : Z16) (c : Z9) : Option Z2 :=
 (oB (jdS N e) fun d => oB (jd3 N c) fun a => some (b, d, a))
theorem jsM (N : Nat) : mK 98 ⟨⟨[.agg [pI, .pv Y19, .pv Y15]], []⟩, ⟨[.agg [pI, .own 1 Y20 199 true, .own 2 Y17 192 true]], []⟩, c3A (jbv N)⟩ :=
 mO (fC (jmr N) (fC (jqJ N) ja)) Tryz.func98 rfl N .no _ (dw := [9, 13])
def jmB : Sh := ⟨.pv Y2 :: .dead :: .dead :: .tre 600003 Y3 88 :: pI :: dz 18 [], []⟩
def jdO (N : Nat) (b : List Z2) : Option ((List Z2)) :=
 (if (b.length : Int) = (b.length : Int) ∧ 0 ≤ (b.length : Int) ∧ (b.length : Int) * 56 ≤ 140737488355328 ∧ (b.length : Int) ≤ 140737488355328 then iter (fun f (d, c, a) => bif decide (a < (d.length : Int)) then oB (idx d a) fun e => (oB (jbv N e.1 e.2.1 e.2.2) fun i => if 0 ≤ a ∧ a < (c.length : Int) then oB (c[a.toNat]?) fun j => (if fits (a + 1) then f (d, (c.set a.toNat i), (a + 1)) else none) else none) else some c) N (b, (List.replicate (b.length : Int).toNat (0, ([] : Z16), ([] : Z9))), (0 : Int)) else none)
theorem jsQ (N : Nat) : mK 54 ⟨⟨[.pv Y2], []⟩, ⟨[.own 1 Y3 88 true], []⟩, c1A (jdO N)⟩ :=
 mO (fC (jsM N) ja) Tryz.func54 rfl N (.seq .no (.seq .no (.seq (.seq .no (.block (.loop jmB .no))) .no))) _ (wr := [7]) (dw := [20])
def jng : Sh := ⟨.pv Y21 :: .dead :: .dead :: .mtk 600003 tI 3 true :: pI :: dz 17 [], []⟩
def jek (N : Nat) (b : List Int) : Option ((List Int)) :=
 (if (b.length : Int) = (b.length : Int) ∧ 0 ≤ (b.length : Int) ∧ (b.length : Int) * 8 ≤ 140737488355328 ∧ (b.length : Int) ≤ 140737488355328 then iter (fun e (d, c, a) => bif decide (a < (d.length : Int)) then oB (idx d a) fun h => (if 0 ≤ a ∧ a < (c.length : Int) then oB (c[a.toNat]?) fun i => (if fits (a + 1) then e (d, (c.set a.toNat h), (a + 1)) else none) else none) else some c) N (b, (List.replicate (b.length : Int).toNat 0), (0 : Int)) else none)
theorem jqI (N : Nat) : mK 237 ⟨⟨[.pv Y21], []⟩, ⟨[.own 1 tI 3 true], []⟩, c1A (jek N)⟩ :=
 mO ja Tryz.func237 rfl N (.seq .no (.seq .no (.seq (.seq .no (.block (.loop jng .no))) .no))) _ (wr := [7])
def jbr (N : Nat) (a : Int) (c : List Int) : Option (Int × (List Int)) :=
 (oB (jek N c) fun b => some (a, b))
theorem jks (N : Nat) : mK 198 ⟨⟨[.agg [pI, .pv Y21]], []⟩, ⟨[.agg [pI, .own 1 tI 3 true]], []⟩, c2A (jbr N)⟩ :=
 mO (fC (jqI N) ja) Tryz.func198 rfl N .no _ (dw := [9])
def joy : Sh := ⟨.pv Y11 :: .dead :: .dead :: .tre 600003 Y12 175 :: pI :: dz 18 [], []⟩
def jdx (N : Nat) (b : Z3) : Option (Z12) :=
 (if (b.length : Int) = (b.length : Int) ∧ 0 ≤ (b.length : Int) ∧ (b.length : Int) * 32 ≤ 140737488355328 ∧ (b.length : Int) ≤ 140737488355328 then iter (fun f (d, c, a) => bif decide (a < (d.length : Int)) then oB (idx d a) fun e => (oB (jbr N e.1 e.2) fun i => if 0 ≤ a ∧ a < (c.length : Int) then oB (c[a.toNat]?) fun j => (if fits (a + 1) then f (d, (c.set a.toNat i), (a + 1)) else none) else none) else some c) N (b, (List.replicate (b.length : Int).toNat (0, ([] : List Int))), (0 : Int)) else none)
theorem jpe (N : Nat) : mK 150 ⟨⟨[.pv Y11], []⟩, ⟨[.own 1 Y12 175 true], []⟩, c1A (jdx N)⟩ :=
 mO (fC (jks N) ja) Tryz.func150 rfl N (.seq .no (.seq .no (.seq (.seq .no (.block (.loop joy .no))) .no))) _ (wr := [7]) (dw := [20])
def jaM (N : Nat) (a : List UInt8) (d : List UInt8) (b : Z3) : Option Z1 :=
 (oB (jdx N b) fun c => some (a, d, c))
theorem jnB (N : Nat) : mK 99 ⟨⟨[.agg [pS, pS, .pv Y11]], []⟩, ⟨[.agg [pS, pS, .own 1 Y12 175 true]], []⟩, c3A (jaM N)⟩ :=
 mO (fC (jpe N) ja) Tryz.func99 rfl N .no _ (dw := [12])
def jk2 : Sh := ⟨.pv Y4 :: .dead :: .dead :: .tre 600003 Y5 136 :: pI :: dz 18 [], []⟩
def jd4 (N : Nat) (b : List Z1) : Option ((List Z1)) :=
 (if (b.length : Int) = (b.length : Int) ∧ 0 ≤ (b.length : Int) ∧ (b.length : Int) * 56 ≤ 140737488355328 ∧ (b.length : Int) ≤ 140737488355328 then iter (fun f (d, c, a) => bif decide (a < (d.length : Int)) then oB (idx d a) fun e => (oB (jaM N e.1 e.2.1 e.2.2) fun i => if 0 ≤ a ∧ a < (c.length : Int) then oB (c[a.toNat]?) fun j => (if fits (a + 1) then f (d, (c.set a.toNat i), (a + 1)) else none) else none) else some c) N (b, (List.replicate (b.length : Int).toNat (([] : List UInt8), ([] : List UInt8), ([] : Z3))), (0 : Int)) else none)
theorem jsC (N : Nat) : mK 55 ⟨⟨[.pv Y4], []⟩, ⟨[.own 1 Y5 136 true], []⟩, c1A (jd4 N)⟩ :=
 mO (fC (jnB N) ja) Tryz.func55 rfl N (.seq .no (.seq .no (.seq (.seq .no (.block (.loop jk2 .no))) .no))) _ (wr := [7]) (dw := [20])
def jZ (N : Nat) (b : List Z2) (d : List Z1) : Option ((List Z2) × (List Z1)) :=
 (oB (jdO N b) fun c => oB (jd4 N d) fun a => some (c, a))
theorem jqs (N : Nat) : mK 14 ⟨⟨[.agg [.pv Y2, .pv Y4]], []⟩, ⟨[.agg [.own 1 Y3 88 true, .own 2 Y5 136 true]], []⟩, c2A (jZ N)⟩ :=
 mO (fC (jsQ N) (fC (jsC N) ja)) Tryz.func14 rfl N .no _ (dw := [6, 10])
def jAj : Sh := ⟨[.agg [pI, pS, .pv (.sl .str), pI, pI, .pv (.sl .q)]], []⟩
def jAx : Sh := ⟨[.agg [pI, pS, .own 1 .str 9 true, pI, pI, .own 2 .q 48 true]], []⟩
def jCM : Sh := ⟨[.pv (.sl .q)], []⟩
def jCG : Sh := ⟨[.own 1 .q 48 true], []⟩
def jBg : Sh := ⟨.pv (.sl .q) :: .dead :: .dead :: .tre 600003 .q 48 :: pI :: dz 18 [], []⟩
def jyE (N : Nat) (h : Z15 → Option Z15) (b : List DQ) : Option ((List DQ)) :=
 (if (b.length : Int) = (b.length : Int) ∧ 0 ≤ (b.length : Int) ∧ (b.length : Int) * 88 ≤ 140737488355328 ∧ (b.length : Int) ≤ 140737488355328 then iter (fun i (f, e, a) => bif decide (a < (f.length : Int)) then oB (idx f a) fun d => (oB (h (d.kind, d.field, d.words, d.lo, d.hi, d.kids)) fun c => if 0 ≤ a ∧ a < (e.length : Int) then oB (e[a.toNat]?) fun k => (if fits (a + 1) then i (f, (e.set a.toNat (DQ.mk c.1 c.2.1 c.2.2.1 c.2.2.2.1 c.2.2.2.2.1 c.2.2.2.2.2)), (a + 1)) else none) else none) else some e) N (b, (List.replicate (b.length : Int).toNat (DQ.mk 0 ([] : List UInt8) ([] : List Z0) 0 0 ([] : List DQ))), (0 : Int)) else none)
def jAb (N : Nat) (F : Z15 → Option Z15) : Model := ⟨jCM, jCG, fun a => jyE N F a⟩
theorem jAY (N : Nat) (F : Z15 → Option Z15) (hF : mK 15 ⟨jAj, jAx, F⟩) : mK 56 (jAb N F) :=
 mO (fC hF ja) Tryz.func56 rfl N (.seq .no (.seq .no (.seq (.seq .no (.block (.loop jBg .no))) .no))) (jAb N F) (wr := [7]) (dw := [20])
def jxF (N : Nat) : (D : Nat) → Int → Z0 → (List Z0) → Int → Int → (List DQ) → Option Z15
 | 0, _, _, _, _, _, _ => none
 | D + 1, a, a2, a3, a4, a5, a6 =>
 oB (jci N a3) fun r =>
 oB (jyE N (fun a => jxF N D a.1 a.2.1 a.2.2.1 a.2.2.2.1 a.2.2.2.2.1 a.2.2.2.2.2) a6) fun r2 =>
 some (a, a2, r, a4, a5, r2)
def jx7 (N D : Nat) : Model := ⟨jAj, jAx, c6A (jxF N D)⟩
theorem jBK (N D : Nat) (ih : mK 15 (jx7 N D)) : mK 15 (jx7 N (D + 1)) :=
 mO (fC ih (fC (jiJ N) (fC (jAY N _ ih) ja))) Tryz.func15 rfl N .no (jx7 N (D + 1)) (dw := [12, 22])
theorem jy9 (N : Nat) : ∀ D, mK 15 (jx7 N D)
 | 0 => modelOk_none ⟨_, Tryz.func15, by decide, by kernel_rfl⟩ _ (fun a => rfl)
 | D + 1 => jBK N D (jy9 N D)
def jt (N : Nat) (a : Int) : Z11 :=
 (bif decide ((65 : Int) ≤ a) then bif decide (a ≤ 90) then some (IntKind.u8.wrap (a + 32)) else (bif decide ((97 : Int) ≤ a) then bif decide (a ≤ 122) then some a else (bif decide ((48 : Int) ≤ a) then bif decide (a ≤ 57) then some a else (some 0) else some 0) else bif decide ((48 : Int) ≤ a) then bif decide (a ≤ 57) then some a else (some 0) else some 0) else bif decide ((97 : Int) ≤ a) then bif decide (a ≤ 122) then some a else (bif decide ((48 : Int) ≤ a) then bif decide (a ≤ 57) then some a else (some 0) else some 0) else bif decide ((48 : Int) ≤ a) then bif decide (a ≤ 57) then some a else (some 0) else some 0)
theorem jfG (N : Nat) : mK 181 ⟨⟨[.pv (.int .u8)], []⟩, ⟨[.pv (.int .u8)], []⟩, c1A (jt N)⟩ :=
 mO ja Tryz.func181 rfl N .no _
def jJ (N : Nat) (a : Int) (c : Int) (b : Int) : Z8 :=
 (bif decide (c ≤ a) then some (decide (a ≤ b)) else some false)
theorem jcL (N : Nat) : mK 72 ⟨⟨[pI, pI, pI], []⟩, ⟨[pB], []⟩, c3A (jJ N)⟩ :=
 mO ja Tryz.func72 rfl N .no _
def jr5 : Sh := ⟨pS :: .dead :: .dead :: pI :: dz 23 [], []⟩
def jT (N : Nat) (i : List UInt8) : Z8 :=
 (iter (fun d (a, b) => bif decide (b < (a.length : Int)) then oB (idx a b) fun k => (oB (jt N (k.toNat : Int)) fun j => oB (idx a b) fun c => bif !decide (j = (c.toNat : Int)) then some false else oB (idx a b) fun f => bif decide ((f.toNat : Int) = 0) then some false else if fits (b + 1) then d (a, (b + 1)) else none) else oB (jJ N (a.length : Int) 1 12) fun h => some h) N (i, (0 : Int)))
theorem jgp (N : Nat) : mK 127 ⟨⟨[pS], []⟩, ⟨[pB], []⟩, c1A (jT N)⟩ :=
 mO (fC (jfG N) (fC (jcL N) ja)) Tryz.func127 rfl N (.seq .no (.seq (.seq .no (.block (.loop jr5 .no))) .no)) _
def jdI (N : Nat) : Option ((List Z0)) :=
 (some ([([105, 110, 103] : List UInt8), ([101, 100] : List UInt8), ([101, 115] : List UInt8), ([108, 121] : List UInt8), ([115] : List UInt8)] : List Z0))
theorem jkj (N : Nat) : mK 233 ⟨⟨[], []⟩, ⟨[.own 1 .str 9 true], []⟩, fun a => jdI N ⟩ :=
 mO ja Tryz.func233 rfl N .no _
def jl2 : Sh := ⟨pS :: .dead :: .dead :: pI :: dz 30 [], []⟩
def ja6 (N : Nat) (j : List UInt8) : Option (Z0) :=
 (iter (fun d (a, b) => oB (jdI N) fun k => bif decide (b < (k.length : Int)) then oB (jdI N) fun i => (oB (idx i b) fun c => if fits ((a.length : Int) - (c.length : Int)) then bif decide ((3 : Int) ≤ ((a.length : Int) - (c.length : Int))) then oB (cut a ((a.length : Int) - (c.length : Int)) (a.length : Int)) fun e => (bif decide (e = c) then oB (cut a 0 ((a.length : Int) - (c.length : Int))) fun f => (some f) else if fits (b + 1) then d (a, (b + 1)) else none) else (if fits (b + 1) then d (a, (b + 1)) else none) else none) else some a) N (j, (0 : Int)))
theorem jtL (N : Nat) : mK 182 ⟨⟨[pS], []⟩, ⟨[pS], []⟩, c1A (ja6 N)⟩ :=
 mO (fC (jkj N) ja) Tryz.func182 rfl N (.seq .no (.seq (.seq .no (.block (.loop jl2 .no))) .no)) _
def jto : Sh := ⟨pS :: dz 9 [], []⟩
def jaq (N : Nat) (b : List UInt8) : Option (Z0) :=
 (iter (fun d (e : Z0) => let s2 := e; (oB (ja6 N s2) fun c => bif !decide (c = s2) then oB (ja6 N s2) fun a => (d a) else some s2)) N b)
theorem jfZ (N : Nat) : mK 128 ⟨⟨[pS], []⟩, ⟨[pS], []⟩, c1A (jaq N)⟩ :=
 mO (fC (jtL N) ja) Tryz.func128 rfl N (.seq .no (.seq (.block (.loop jto .no)) .no)) _
def jlY : Sh := ⟨.pv (.sl .str) :: pS :: dz 3 (pI :: dz 12 []), []⟩
def jap (N : Nat) (d : List Z0) (h : List UInt8) : Z8 :=
 (iter (fun e (b, c, a) => bif decide (a < (b.length : Int)) then oB (idx b a) fun i => (bif decide (i = c) then some true else if fits (a + 1) then e (b, c, (a + 1)) else none) else some false) N (d, h, (0 : Int)))
theorem jhP (N : Nat) : mK 129 ⟨⟨[.pv (.sl .str), pS], []⟩, ⟨[pB], []⟩, c2A (jap N)⟩ :=
 mO ja Tryz.func129 rfl N (.seq .no (.seq (.seq .no (.block (.loop jlY .no))) .no)) _
def jrs : Sh := ⟨.dead :: .box 1 0 :: .dead :: pI :: dz 114 [], [(1, false, [.pv (.sl .str), .pv Y16])]⟩
def js0 : Sh := ⟨.dead :: .box 1 0 :: .dead :: .dead :: pI :: dz 113 [], [(1, false, [.pv (.sl .str), .pv Y16])]⟩
def jrc : Sh := ⟨.dead :: .box 1 0 :: .dead :: .dead :: pI :: .box 5 0 :: pI :: dz 111 [], [(1, false, [.pv (.sl .str), .pv Y16]), (5, false, [.pv (.sl .str), pS])]⟩
def jcw (N : Nat) (K : List Z0) (t : List Z4) : Z8 :=
 (iter (fun n (a, b, k) => bif decide (a < (b.length : Int)) then oB (idx b a) fun y => (oB (jT N y) fun x => bif !x then some false else bif decide ((0 : Int) < a) then oB (idx b a) fun q => (if fits (a - 1) then oB (idx b (a - 1)) fun r => (bif Op.bytesLess q r || decide (q = r) then some false else if fits (a + 1) then n ((a + 1), b, k) else none) else none) else if fits (a + 1) then n ((a + 1), b, k) else none) else iter (fun B (l, o, h) => bif decide (l < (h.length : Int)) then oB (idx h l) fun m => (iter (fun C (j, d, i, p, c, f) => bif decide (d < (c.length : Int)) then oB (idx c d) fun v => (oB (jT N v) fun E => bif !E then some false else oB (idx c d) fun D => oB (jaq N D) fun A => oB (idx c d) fun w => bif !decide (A = w) then some false else oB (idx c d) fun G => oB (jap N i G) fun H => bif H then some false else if fits (d + 1) then C (j, (d + 1), i, p, c, f) else none) else oB (jJ N (c.length : Int) 1 3) fun u => bif !u then some false else oB (jT N f) fun I => bif !I then some false else oB (jaq N f) fun z => bif !decide (z = f) then some false else if fits (j + 1) then B ((j + 1), i, p) else none) N (l, (0 : Int), o, h, m.1, m.2)) else bif decide ((o.length : Int) ≤ 6) then some (decide ((h.length : Int) ≤ 4)) else some false) N ((0 : Int), b, k)) N ((0 : Int), K, t))
theorem jtf (N : Nat) : mK 85 ⟨⟨[.agg [.pv (.sl .str), .pv Y16]], []⟩, ⟨[pB], []⟩, c2A (jcw N)⟩ :=
 mO (fC (jgp N) (fC (jfZ N) (fC (jhP N) (fC (jcL N) ja)))) Tryz.func85 rfl N (.seq .no (.seq (.seq .no (.block (.loop jrs .no))) (.seq (.seq .no (.block (.loop js0 (.seq .no (.seq (.block (.seq .no (.seq (.seq .no (.block (.loop jrc .no))) .no))) .no))))) .no))) _
def jot : Sh := ⟨pS :: .dead :: .dead :: pI :: dz 19 [], []⟩
def jcu (N : Nat) (f : List UInt8) : Z8 :=
 (iter (fun d (a, b) => bif decide (b < (a.length : Int)) then oB (idx a b) fun h => (bif decide ((h.toNat : Int) < 32) then some false else oB (idx a b) fun c => bif decide ((126 : Int) < (c.toNat : Int)) then some false else if fits (b + 1) then d (a, (b + 1)) else none) else some (decide ((a.length : Int) ≤ 160))) N (f, (0 : Int)))
theorem jpZ (N : Nat) : mK 183 ⟨⟨[pS], []⟩, ⟨[pB], []⟩, c1A (jcu N)⟩ :=
 mO ja Tryz.func183 rfl N (.seq .no (.seq (.seq .no (.block (.loop jot .no))) .no)) _
def jp0 : Sh := ⟨.dead :: .box 1 0 :: .dead :: pI :: dz 100 [], [(1, false, [pI, .pv Y19, .pv Y15])]⟩
def jtP : Sh := ⟨.dead :: .box 1 0 :: dz 3 (pI :: dz 98 []), [(1, false, [pI, .pv Y19, .pv Y15])]⟩
def jcb (N : Nat) (w : Int) (t : Z16) (u : Z9) : Z8 :=
 (iter (fun l (b, k, d, j) => bif decide (b < (d.length : Int)) then oB (idx d b) fun e => (oB (jT N e.1) fun v => bif !v then some false else oB (jcu N e.2) fun y => bif !y then some false else bif decide ((0 : Int) < b) then if fits (b - 1) then oB (idx d (b - 1)) fun n => (bif Op.bytesLess e.1 n.1 || decide (e.1 = n.1) then some false else if fits (b + 1) then l ((b + 1), k, d, j) else none) else none else if fits (b + 1) then l ((b + 1), k, d, j) else none) else iter (fun o (a, h, i, c) => bif decide (a < (c.length : Int)) then oB (idx c a) fun z => (oB (jT N z.1) fun x => bif !x then some false else oB (idx c a) fun q => oB (jJ N q.2 0 999999999) fun A => bif !A then some false else bif decide ((0 : Int) < a) then oB (idx c a) fun m => (if fits (a - 1) then oB (idx c (a - 1)) fun p => (bif Op.bytesLess m.1 p.1 || decide (m.1 = p.1) then some false else if fits (a + 1) then o ((a + 1), h, i, c) else none) else none) else if fits (a + 1) then o ((a + 1), h, i, c) else none) else oB (jJ N h 1 9999) fun r => bif r then oB (jJ N (i.length : Int) 0 3) fun B => (bif B then some (decide ((c.length : Int) ≤ 3)) else some false) else some false) N ((0 : Int), k, d, j)) N ((0 : Int), w, t, u))
theorem jpD (N : Nat) : mK 130 ⟨⟨[.agg [pI, .pv Y19, .pv Y15]], []⟩, ⟨[pB], []⟩, c3A (jcb N)⟩ :=
 mO (fC (jgp N) (fC (jpZ N) (fC (jcL N) ja))) Tryz.func130 rfl N (.seq .no (.seq (.seq .no (.block (.loop jp0 .no))) (.seq (.seq .no (.block (.loop jtP .no))) .no))) _
def jkS : Sh := ⟨.pv Y2 :: .dead :: .dead :: pI :: dz 33 [], []⟩
def jbU (N : Nat) (e : List Z2) : Z8 :=
 (iter (fun d (b, a) => bif decide (a < (b.length : Int)) then oB (idx b a) fun c => (oB (jcb N c.1 c.2.1 c.2.2) fun i => bif !i then some false else bif decide ((0 : Int) < a) then oB (idx b a) fun j => (if fits (a - 1) then oB (idx b (a - 1)) fun h => (bif decide (j.1 ≤ h.1) then some false else if fits (a + 1) then d (b, (a + 1)) else none) else none) else if fits (a + 1) then d (b, (a + 1)) else none) else some (decide ((b.length : Int) ≤ 16))) N (e, (0 : Int)))
theorem jpx (N : Nat) : mK 86 ⟨⟨[.pv Y2], []⟩, ⟨[pB], []⟩, c1A (jbU N)⟩ :=
 mO (fC (jpD N) ja) Tryz.func86 rfl N (.seq .no (.seq (.seq .no (.block (.loop jkS .no))) .no)) _
def jl5 : Sh := ⟨.pv (.sl .str) :: pS :: dz 3 (pI :: dz 42 []), []⟩
def s_l7Put_m (N : Nat) (m : List Z0) (t : List UInt8) : Option ((List Z0)) :=
 (iter (fun n (a, c, b) => bif decide (b < (a.length : Int)) then oB (idx a b) fun p => (bif Op.bytesLess p c then if fits (b + 1) then n (a, c, (b + 1)) else none else bif decide (b < (a.length : Int)) then oB (idx a b) fun q => (bif decide (q = c) then some a else oB (cut a 0 b) fun h => if room ([] : List Z0).length h.length 16 then if room (([] : List Z0) ++ h).length ([c] : List Z0).length 16 then oB (cut a b (a.length : Int)) fun i => (if room ((([] : List Z0) ++ h) ++ ([c] : List Z0)).length i.length 16 then some (((([] : List Z0) ++ h) ++ ([c] : List Z0)) ++ i) else none) else none else none) else oB (cut a 0 b) fun e => if room ([] : List Z0).length e.length 16 then if room (([] : List Z0) ++ e).length ([c] : List Z0).length 16 then oB (cut a b (a.length : Int)) fun j => (if room ((([] : List Z0) ++ e) ++ ([c] : List Z0)).length j.length 16 then some (((([] : List Z0) ++ e) ++ ([c] : List Z0)) ++ j) else none) else none else none) else bif decide (b < (a.length : Int)) then oB (idx a b) fun r => (bif decide (r = c) then some a else oB (cut a 0 b) fun d => if room ([] : List Z0).length d.length 16 then if room (([] : List Z0) ++ d).length ([c] : List Z0).length 16 then oB (cut a b (a.length : Int)) fun l => (if room ((([] : List Z0) ++ d) ++ ([c] : List Z0)).length l.length 16 then some (((([] : List Z0) ++ d) ++ ([c] : List Z0)) ++ l) else none) else none else none) else oB (cut a 0 b) fun f => if room ([] : List Z0).length f.length 16 then if room (([] : List Z0) ++ f).length ([c] : List Z0).length 16 then oB (cut a b (a.length : Int)) fun k => (if room ((([] : List Z0) ++ f) ++ ([c] : List Z0)).length k.length 16 then some (((([] : List Z0) ++ f) ++ ([c] : List Z0)) ++ k) else none) else none else none) N (m, t, (0 : Int)))
theorem jgt (N : Nat) : mK 184 ⟨⟨[.pv (.sl .str), pS], []⟩, ⟨[.pv (.sl .str)], []⟩, c2A (s_l7Put_m N)⟩ :=
 mO ja Tryz.func184 rfl N (.seq .no (.seq .no (.seq (.block (.loop jl5 .no)) .no))) _
def joT : Sh := ⟨.pv Y2 :: .dead :: .dead :: .pv (.sl .str) :: pI :: dz 30 [], []⟩
def jkn : Sh := ⟨.pv Y2 :: .dead :: .dead :: .pv (.sl .str) :: pI :: pI :: dz 29 [], []⟩
def s_l7Names_m (N : Nat) (n : List Z2) : Option ((List Z0)) :=
 (iter (fun j (f, h, i) => bif decide (i < (f.length : Int)) then iter (fun k (b, e, a, c) => oB (idx b a) fun o => bif decide (c < (o.2.1.length : Int)) then oB (idx b a) fun p => (oB (idx p.2.1 c) fun l => oB (s_l7Put_m N e l.1) fun m => if fits (c + 1) then k (b, m, a, (c + 1)) else none) else if fits (a + 1) then j (b, e, (a + 1)) else none) N (f, h, i, (0 : Int)) else some h) N (n, ([] : List Z0), (0 : Int)))
theorem jlz (N : Nat) : mK 131 ⟨⟨[.pv Y2], []⟩, ⟨[.pv (.sl .str)], []⟩, c1A (s_l7Names_m N)⟩ :=
 mO (fC (jgt N) ja) Tryz.func131 rfl N (.seq .no (.seq .no (.seq (.seq .no (.block (.loop joT (.seq .no (.seq (.block (.seq .no (.block (.loop jkn .no)))) .no))))) .no))) _
def jl8 : Sh := ⟨.dead :: pS :: .box 2 0 :: .dead :: .dead :: pI :: dz 21 [], [(2, false, [pI, .pv Y19, .pv Y15])]⟩
def s_l6Field_m (N : Nat) (l : Int) (e : Z16) (j : Z9) (i : List UInt8) : Option (Z0) :=
 (iter (fun f (c, a, k, b, d) => bif decide (a < (b.length : Int)) then oB (idx b a) fun m => (bif decide (m.1 = c) then oB (idx b a) fun n => (some n.2) else if fits (a + 1) then f (c, (a + 1), k, b, d) else none) else some ([] : List UInt8)) N (i, (0 : Int), l, e, j))
theorem jhA (N : Nat) : mK 185 ⟨⟨[.agg [pI, .pv Y19, .pv Y15], pS], []⟩, ⟨[pS], []⟩, c4A (s_l6Field_m N)⟩ :=
 mO ja Tryz.func185 rfl N (.seq .no (.seq (.seq .no (.block (.loop jl8 .no))) .no)) _
def jo3 : Sh := ⟨pS :: .dead :: .dead :: .own 600003 Y6 246 true :: pI :: dz 50 [], []⟩
def jm6 : Sh := ⟨pS :: .dead :: .dead :: .own 600003 Y6 246 true :: pI :: .own 600005 (.int .u8) 5 true :: pI :: dz 48 [], []⟩
def jtK : Sh := ⟨pS :: .dead :: .dead :: .own 600003 Y6 246 true :: pI :: .pv (.sl (.int .u8)) :: pI :: dz 48 [], []⟩
def jb3 (N : Nat) (E : List UInt8) : Option ((List Z10)) :=
 (iter (fun l (y, u, o) => bif decide (o < (y.length : Int)) then iter (fun D (b, j, a, c, k) => bif decide (a < (b.length : Int)) then oB (idx b a) fun G => (oB (jt N (G.toNat : Int)) fun B => bif !decide (B = 0) then oB (idx b a) fun z => (oB (jt N (z.toNat : Int)) fun t => if room c.length ([t] : List Int).length 1 then if fits (a + 1) then D (b, j, (a + 1), (c ++ ([t] : List Int)), k) else none else none) else meet (fun (d : Z0 × (List Z10) × Int × (List Int) × Int) => match d with | (x, i, f, n, w) => bif decide ((0 : Int) < (n.length : Int)) then if room i.length ([((bytesOf n), (i.length : Int), w, f)] : List Z10).length 40 then if fits (f + 1) then l (x, (i ++ ([((bytesOf n), (i.length : Int), w, f)] : List Z10)), (f + 1)) else none else none else if fits (f + 1) then l (x, i, (f + 1)) else none) fun p => bif decide ((12 : Int) < (c.length : Int)) then oB (cut c 0 12) fun C => (p (b, j, a, C, k)) else p (b, j, a, c, k)) else meet (fun (d : Z0 × (List Z10) × Int × (List Int) × Int) => match d with | (v, h, e, m, r) => bif decide ((0 : Int) < (m.length : Int)) then if room h.length ([((bytesOf m), (h.length : Int), r, e)] : List Z10).length 40 then if fits (e + 1) then l (v, (h ++ ([((bytesOf m), (h.length : Int), r, e)] : List Z10)), (e + 1)) else none else none else if fits (e + 1) then l (v, h, (e + 1)) else none) fun q => bif decide ((12 : Int) < (c.length : Int)) then oB (cut c 0 12) fun A => (q (b, j, a, A, k)) else q (b, j, a, c, k)) N (y, u, o, ([] : List Int), o) else some u) N (E, ([] : List Z10), (0 : Int)))
theorem jsr (N : Nat) : mK 235 ⟨⟨[pS], []⟩, ⟨[.own 1 Y6 246 true], []⟩, c1A (jb3 N)⟩ :=
 mO (fC (jfG N) ja) Tryz.func235 rfl N (.seq .no (.seq .no (.seq (.seq .no (.block (.loop jo3 (.seq .no (.seq (.block (.seq .no (.seq .no (.seq (.block (.loop jm6 .no)) (.meet jtK .no .no))))) .no))))) .no))) _
def jmf : Sh := ⟨.dead :: .dead :: .box 2 0 :: .dead :: .dead :: .own 600005 Y17 186 true :: .own 600006 Y6 246 true :: pI :: dz 43 [], [(2, false, [.pv (.sl .str), .pv Y16])]⟩
def jbY (N : Nat) (r : List Z0) (j : List Z4) (q : List UInt8) : Option (Z7) :=
 (oB (jb3 N q) fun l => iter (fun e (d, b, a, c, f) => bif decide (a < (b.length : Int)) then oB (idx b a) fun m => (oB (jaq N m.1) fun h => oB (idx b a) fun n => oB (jap N c n.1) fun o => bif !o then oB (jap N c h) fun p => (bif !p then oB (idx b a) fun i => (if room d.length ([(h, i.2.1)] : Z9).length 24 then if fits (a + 1) then e ((d ++ ([(h, i.2.1)] : Z9)), b, (a + 1), c, f) else none else none) else if fits (a + 1) then e (d, b, (a + 1), c, f) else none) else if fits (a + 1) then e (d, b, (a + 1), c, f) else none) else some d) N (([] : Z9), l, (0 : Int), r, j))
theorem jrk (N : Nat) : mK 192 ⟨⟨[.agg [.pv (.sl .str), .pv Y16], pS], []⟩, ⟨[.own 1 Y17 186 true], []⟩, c3A (jbY N)⟩ :=
 mO (fC (jsr N) (fC (jfZ N) (fC (jhP N) ja))) Tryz.func192 rfl N (.seq .no (.seq .no (.seq .no (.seq (.seq .no (.block (.loop jmf .no))) .no)))) _
def jrL : Sh := ⟨.pv Y15 :: .pv (.sl .str) :: dz 3 (pI :: dz 36 []), []⟩
def jcC (N : Nat) (e : Z9) (f : List Z0) : Z8 :=
 (iter (fun h (b, c, a) => bif decide (a < (c.length : Int)) then bif decide ((b.length : Int) ≤ a) then some false else (oB (idx b a) fun k => oB (idx c a) fun l => bif !decide (k.1 = l) then some false else oB (idx b a) fun j => oB (idx b 0) fun d => if fits (d.2 + a) then bif !decide (j.2 = (d.2 + a)) then some false else (if fits (a + 1) then h (b, c, (a + 1)) else none) else none) else some true) N (e, f, (0 : Int)))
theorem jtg (N : Nat) : mK 236 ⟨⟨[.pv Y15, .pv (.sl .str)], []⟩, ⟨[pB], []⟩, c2A (jcC N)⟩ :=
 mO ja Tryz.func236 rfl N (.seq .no (.seq (.seq .no (.block (.loop jrL .no))) .no)) _
def jlL : Sh := ⟨.dead :: .pv Y15 :: .box 2 0 :: .dead :: .dead :: pI :: pI :: dz 38 [], [(2, false, [.pv (.sl .str), .pv Y16])]⟩
def jcJ (N : Nat) (m : List Z0) (i : List Z4) (h : Z9) : Z11 :=
 (iter (fun e (d, c, a, f, b) => bif decide (a < (b.length : Int)) then oB (idx b a) fun n => (oB (jcC N d n.1) fun l => bif l then bif decide (c < 0) then if fits (a + 1) then e (d, a, (a + 1), f, b) else none else (oB (idx b a) fun o => oB (idx b c) fun k => bif decide ((k.1.length : Int) < (o.1.length : Int)) then if fits (a + 1) then e (d, a, (a + 1), f, b) else none else if fits (a + 1) then e (d, c, (a + 1), f, b) else none) else if fits (a + 1) then e (d, c, (a + 1), f, b) else none) else some c) N (h, ((-1) : Int), (0 : Int), m, i))
theorem jqp (N : Nat) : mK 193 ⟨⟨[.agg [.pv (.sl .str), .pv Y16], .pv Y15], []⟩, ⟨[pI], []⟩, c3A (jcJ N)⟩ :=
 mO (fC (jtg N) ja) Tryz.func193 rfl N (.seq .no (.seq .no (.seq (.seq .no (.block (.loop jlL .no))) .no))) _
def jnK : Sh := ⟨.dead :: .dead :: .box 2 0 :: .dead :: .dead :: .own 600005 Y17 186 true :: .pv Y15 :: dz 45 [], [(2, false, [.pv (.sl .str), .pv Y16])]⟩
def ja5 (N : Nat) (l : List Z0) (f : List Z4) (r : List UInt8) : Option (Z7) :=
 (oB (jbY N l f r) fun p => iter (fun h (c, a, d, b) => bif decide ((0 : Int) < (a.length : Int)) then oB (jcJ N d b a) fun e => (bif decide (e < 0) then oB (idx a 0) fun i => (if room c.length ([i] : Z9).length 24 then oB (cut a 1 (a.length : Int)) fun q => (h ((c ++ ([i] : Z9)), q, d, b)) else none) else oB (idx b e) fun j => oB (idx a 0) fun k => if room c.length ([(j.2, k.2)] : Z9).length 24 then oB (idx b e) fun m => (oB (cut a (m.1.length : Int) (a.length : Int)) fun n => h ((c ++ ([(j.2, k.2)] : Z9)), n, d, b)) else none) else some c) N (([] : Z9), p, l, f))
theorem jiO (N : Nat) : mK 142 ⟨⟨[.agg [.pv (.sl .str), .pv Y16], pS], []⟩, ⟨[.own 1 Y17 186 true], []⟩, c3A (ja5 N)⟩ :=
 mO (fC (jrk N) (fC (jqp N) ja)) Tryz.func142 rfl N (.seq .no (.seq .no (.seq .no (.seq (.block (.loop jnK .no)) .no)))) _
def jn9 : Sh := ⟨.dead :: .pv Y2 :: pS :: .box 3 0 :: dz 3 (.pv (.sl .str) :: pI :: dz 31 []), [(3, false, [.pv (.sl .str), .pv Y16])]⟩
def jrT : Sh := ⟨.dead :: .pv Y2 :: pS :: .box 3 0 :: dz 3 (.pv (.sl .str) :: pI :: .own 600009 Y17 186 true :: pI :: dz 29 []), [(3, false, [.pv (.sl .str), .pv Y16])]⟩
def s_l7Terms_m (N : Nat) (z : List Z0) (r : List Z4) (A : List Z2) (B : List UInt8) : Option ((List Z0)) :=
 (iter (fun t (e, n, q, h, i, o) => bif decide (h < (e.length : Int)) then oB (idx e h) fun d => (oB (s_l6Field_m N d.1 d.2.1 d.2.2 n) fun u => oB (ja5 N i o u) fun y => iter (fun x (p, l, k, f, b, a, j, m) => bif decide (a < (b.length : Int)) then oB (idx b a) fun v => (oB (s_l7Put_m N k v.1) fun w => if fits (a + 1) then x (p, l, w, f, b, (a + 1), j, m) else none) else if fits (f + 1) then t (p, l, k, (f + 1), j, m) else none) N (e, n, q, h, y, (0 : Int), i, o)) else some q) N (A, B, ([] : List Z0), (0 : Int), z, r))
theorem jqQ (N : Nat) : mK 132 ⟨⟨[.agg [.pv (.sl .str), .pv Y16], .pv Y2, pS], []⟩, ⟨[.pv (.sl .str)], []⟩, c4A (s_l7Terms_m N)⟩ :=
 mO (fC (jhA N) (fC (jiO N) (fC (jgt N) ja))) Tryz.func132 rfl N (.seq .no (.seq .no (.seq (.seq .no (.block (.loop jn9 (.seq .no (.seq (.block (.seq .no (.seq .no (.block (.loop jrT .no))))) .no))))) .no))) _
def jnY : Sh := ⟨dz 3 (pS :: dz 5 (.own 600009 tI 3 true :: .own 600010 Y17 186 true :: pI :: dz 28 [])), []⟩
def s_l7Post_m (N : Nat) (q : List Z0) (h : List Z4) (l : Int) (i : Z16) (k : Z9) (r : List UInt8) (o : List UInt8) : Option ((List Int)) :=
 (oB (s_l6Field_m N l i k r) fun m => oB (ja5 N q h m) fun p => iter (fun e (d, c, b, a) => bif decide (a < (b.length : Int)) then oB (idx b a) fun n => (bif decide (n.1 = d) then oB (idx b a) fun f => (if room c.length ([f.2] : List Int).length 8 then if fits (a + 1) then e (d, (c ++ ([f.2] : List Int)), b, (a + 1)) else none else none) else if fits (a + 1) then e (d, c, b, (a + 1)) else none) else some c) N (o, ([] : List Int), p, (0 : Int)))
theorem js6 (N : Nat) : mK 186 ⟨⟨[.agg [.pv (.sl .str), .pv Y16], .agg [pI, .pv Y19, .pv Y15], pS, pS], []⟩, ⟨[.own 1 tI 3 true], []⟩, c7A (s_l7Post_m N)⟩ :=
 mO (fC (jhA N) (fC (jiO N) ja)) Tryz.func186 rfl N (.seq .no (.seq .no (.seq .no (.seq (.seq .no (.block (.loop jnY .no))) .no)))) _
def jkw : Sh := ⟨.dead :: .pv Y2 :: pS :: pS :: .box 4 0 :: dz 3 (.box 8 0 :: .box 9 0 :: pI :: dz 34 []), [(4, false, [.pv (.sl .str), .pv Y16]), (8, false, [pS, pS, .nils]), (9, false, [pS, pS, .own 700902 Y12 175 true])]⟩
def s_l7Entry_m (N : Nat) (v : List Z0) (t : List Z4) (w : List Z2) (q : List UInt8) (o : List UInt8) : Option Z1 :=
 (iter (fun m (b, k, h, a, e, l, p, r, i, j, c) => bif decide (a < (b.length : Int)) then oB (idx b a) fun d => (oB (s_l7Post_m N e l d.1 d.2.1 d.2.2 k h) fun f => bif decide ((0 : Int) < (f.length : Int)) then oB (idx b a) fun n => (if room c.length ([(n.1, f)] : Z3).length 32 then if fits (a + 1) then m (b, k, h, (a + 1), e, l, p, r, i, j, (c ++ ([(n.1, f)] : Z3))) else none else none) else if fits (a + 1) then m (b, k, h, (a + 1), e, l, p, r, i, j, c) else none) else some (i, j, c)) N (w, q, o, (0 : Int), v, t, ([] : List UInt8), ([] : List UInt8), q, o, ([] : Z3)))
theorem jtr (N : Nat) : mK 133 ⟨⟨[.agg [.pv (.sl .str), .pv Y16], .pv Y2, pS, pS], []⟩, ⟨[.agg [pS, pS, .own 1 Y12 175 true]], []⟩, c5A (s_l7Entry_m N)⟩ :=
 mO (fC (js6 N) ja) Tryz.func133 rfl N (.seq .no (.seq .no (.seq (.seq .no (.block (.loop jkw .no))) .no))) _
def s_l7CopyDoc_m (N : Nat) (c : Int) (a : Z16) (b : Z9) : Option Z2 :=
 (if room ([] : Z16).length a.length 32 then if room ([] : Z9).length b.length 24 then some (c, (([] : Z16) ++ a), (([] : Z9) ++ b)) else none else none)
theorem jtC (N : Nat) : mK 134 ⟨⟨[.agg [pI, .pv Y19, .pv Y15]], []⟩, ⟨[.agg [pI, .own 1 Y20 199 true, .own 2 Y17 192 true]], []⟩, c3A (s_l7CopyDoc_m N)⟩ :=
 mO ja Tryz.func134 rfl N .no _
def jn8 : Sh := ⟨.dead :: .pv Y2 :: .box 2 0 :: .dead :: .box 4 0 :: .box 5 0 :: .pv (.sl .str) :: pI :: dz 58 [], [(2, false, [.pv (.sl .str), .pv Y16]), (4, false, [.nils, .nils]), (5, false, [.nils, .own 700501 Y5 136 true])]⟩
def jpr : Sh := ⟨.dead :: .pv Y2 :: .box 2 0 :: .dead :: .box 4 0 :: .box 5 0 :: .pv (.sl .str) :: pI :: .pv (.sl .str) :: pI :: dz 56 [], [(2, false, [.pv (.sl .str), .pv Y16]), (4, false, [.nils, .nils]), (5, false, [.nils, .own 700501 Y5 136 true])]⟩
def jn0 : Sh := ⟨.dead :: .pv Y2 :: .dead :: .dead :: .box 4 0 :: .box 5 0 :: dz 4 (pI :: dz 55 []), [(4, false, [.nils, .nils]), (5, false, [.own 700500 Y3 88 true, .own 700501 Y5 136 true])]⟩
def s_l7Of_m (N : Nat) (K : List Z0) (z : List Z4) (y : List Z2) : Option ((List Z2) × (List Z1)) :=
 (oB (s_l7Names_m N y) fun B => iter (fun A (m, n, q, r, t, w) => bif decide (q < (n.length : Int)) then oB (idx n q) fun C => (oB (s_l7Terms_m N r t m C) fun H => iter (fun E (o, f, d, j, c, i, l, p) => bif decide (c < (j.length : Int)) then oB (idx f d) fun D => (oB (idx j c) fun I => oB (s_l7Entry_m N i l o D I) fun u => if room p.length ([u] : List Z1).length 56 then if fits (c + 1) then E (o, f, d, j, (c + 1), i, l, (p ++ ([u] : List Z1))) else none else none) else if fits (d + 1) then A (o, f, (d + 1), i, l, p) else none) N (m, n, q, H, (0 : Int), r, t, w)) else iter (fun G (k, b, h, x) => bif decide (b < (k.length : Int)) then oB (idx k b) fun e => (oB (s_l7CopyDoc_m N e.1 e.2.1 e.2.2) fun v => if room h.length ([v] : List Z2).length 56 then if fits (b + 1) then G (k, (b + 1), (h ++ ([v] : List Z2)), x) else none else none) else some (h, x)) N (m, (0 : Int), ([] : List Z2), w)) N (y, B, (0 : Int), K, z, ([] : List Z1)))
theorem jmU (N : Nat) : mK 87 ⟨⟨[.agg [.pv (.sl .str), .pv Y16], .pv Y2], []⟩, ⟨[.agg [.own 1 Y3 88 true, .own 2 Y5 136 true]], []⟩, c3A (s_l7Of_m N)⟩ :=
 mO (fC (jlz N) (fC (jqQ N) (fC (jtr N) (fC (jtC N) ja)))) Tryz.func87 rfl N (.seq .no (.seq .no (.seq .no (.seq (.seq .no (.block (.loop jn8 (.seq .no (.seq (.block (.seq .no (.seq .no (.block (.loop jpr .no))))) .no))))) (.seq (.seq .no (.block (.loop jn0 .no))) .no))))) _
def jnI : Sh := ⟨.pv Y21 :: .pv Y21 :: dz 3 (pI :: dz 20 []), []⟩
def jb1 (N : Nat) (d : List Int) (c : List Int) : Z8 :=
 (bif !decide ((d.length : Int) = (c.length : Int)) then some false else iter (fun f (b, e, a) => bif decide (a < (b.length : Int)) then oB (idx b a) fun i => (oB (idx e a) fun j => bif !decide (i = j) then some false else if fits (a + 1) then f (b, e, (a + 1)) else none) else some true) N (d, c, (0 : Int)))
theorem jlH (N : Nat) : mK 135 ⟨⟨[.pv Y21, .pv Y21], []⟩, ⟨[pB], []⟩, c2A (jb1 N)⟩ :=
 mO ja Tryz.func135 rfl N (.seq .no (.seq .no (.seq (.seq .no (.block (.loop jnI .no))) .no))) _
def jnx : Sh := ⟨.dead :: .dead :: .box 2 0 :: .box 3 0 :: .dead :: pI :: dz 57 [], [(2, false, [pS, pS, .pv Y11]), (3, false, [pS, pS, .pv Y11])]⟩
def jbQ (N : Nat) (h : List UInt8) (f : List UInt8) (i : Z3) (e : List UInt8) (j : List UInt8) (d : Z3) : Z8 :=
 (bif !decide (h = e) then some false else bif !decide (f = j) then some false else bif !decide ((i.length : Int) = (d.length : Int)) then some false else iter (fun l (a, n, t, b, v, r, c) => bif decide (a < (b.length : Int)) then oB (idx b a) fun p => (oB (idx c a) fun q => bif !decide (p.1 = q.1) then some false else oB (idx b a) fun u => oB (idx c a) fun k => oB (jb1 N u.2 k.2) fun o => bif !o then some false else if fits (a + 1) then l ((a + 1), n, t, b, v, r, c) else none) else some true) N ((0 : Int), h, f, i, e, j, d))
theorem jtG (N : Nat) : mK 88 ⟨⟨[.agg [pS, pS, .pv Y11], .agg [pS, pS, .pv Y11]], []⟩, ⟨[pB], []⟩, c6A (jbQ N)⟩ :=
 mO (fC (jlH N) ja) Tryz.func88 rfl N (.seq .no (.seq .no (.seq (.seq .no (.block (.loop jnx .no))) .no))) _
def jrW : Sh := ⟨dz 3 (.box 3 0 :: .dead :: .box 5 0 :: pI :: dz 39 []), [(3, false, [.pv Y2, .pv Y4]), (5, false, [.own 700500 Y3 88 true, .own 700501 Y5 136 true])]⟩
def s_l7Ok_m (N : Nat) (j : List Z0) (h : List Z4) (f : List Z2) (k : List Z1) : Z8 :=
 (oB (jcw N j h) fun o => bif !o then some false else oB (jbU N f) fun p => bif !p then some false else oB (s_l7Of_m N j h f) fun e => bif !decide ((e.2.length : Int) = (k.length : Int)) then some false else iter (fun m (a, l, i, r, d) => bif decide (a < (d.length : Int)) then oB (idx d a) fun b => (oB (idx i a) fun c => oB (jbQ N b.1 b.2.1 b.2.2 c.1 c.2.1 c.2.2) fun q => bif !q then some false else if fits (a + 1) then m ((a + 1), l, i, r, d) else none) else some true) N ((0 : Int), f, k, e.1, e.2))
theorem jpm (N : Nat) : mK 48 ⟨⟨[.agg [.pv (.sl .str), .pv Y16], .agg [.pv Y2, .pv Y4]], []⟩, ⟨[pB], []⟩, c4A (s_l7Ok_m N)⟩ :=
 mO (fC (jtf N) (fC (jpx N) (fC (jmU N) (fC (jtG N) ja)))) Tryz.func48 rfl N (.seq .no (.seq .no (.seq .no (.seq .no (.seq (.seq .no (.block (.loop jrW .no))) .no))))) _
def jxz (N : Nat) (k : Int) (i : List UInt8) (f : List Z0) (c : Int) (d : Int) (a : List DQ) (j : Bool) (h : Bool) (e : Bool) (b : Bool) : Z8 :=
 (bif j then bif h then bif e then bif b then some true else (some (decide ((a.length : Int) = 0))) else (bif decide (c = 0) then bif decide (d = 0) then bif b then some true else (some (decide ((a.length : Int) = 0))) else (some false) else some false) else (bif decide ((f.length : Int) = 0) then bif e then bif b then some true else (some (decide ((a.length : Int) = 0))) else (bif decide (c = 0) then bif decide (d = 0) then bif b then some true else (some (decide ((a.length : Int) = 0))) else (some false) else some false) else some false) else bif decide (i = ([] : List UInt8)) then bif h then bif e then bif b then some true else (some (decide ((a.length : Int) = 0))) else (bif decide (c = 0) then bif decide (d = 0) then bif b then some true else (some (decide ((a.length : Int) = 0))) else (some false) else some false) else (bif decide ((f.length : Int) = 0) then bif e then bif b then some true else (some (decide ((a.length : Int) = 0))) else (bif decide (c = 0) then bif decide (d = 0) then bif b then some true else (some (decide ((a.length : Int) = 0))) else (some false) else some false) else some false) else some false)
theorem jDV (N : Nat) : mK 187 ⟨⟨[.agg [pI, pS, .pv (.sl .str), pI, pI, .pv (.sl .q)], pB, pB, pB, pB], []⟩, ⟨[pB], []⟩, c10A (jxz N)⟩ :=
 mO ja Tryz.func187 rfl N .no _
def jDt : Sh := ⟨.pv (.sl .str) :: pI :: dz 3 (pI :: dz 16 []), []⟩
def jxL (N : Nat) (d : List Z0) (k : Int) : Z8 :=
 (iter (fun e (a, c, b) => bif decide (b < (a.length : Int)) then oB (idx a b) fun j => (oB (jT N j) fun i => bif !i then some false else if fits (b + 1) then e (a, c, (b + 1)) else none) else oB (jJ N (a.length : Int) 1 c) fun h => some h) N (d, k, (0 : Int)))
theorem jDs (N : Nat) : mK 188 ⟨⟨[.pv (.sl .str), pI], []⟩, ⟨[pB], []⟩, c2A (jxL N)⟩ :=
 mO (fC (jgp N) (fC (jcL N) ja)) Tryz.func188 rfl N (.seq .no (.seq (.seq .no (.block (.loop jDt .no))) .no)) _
def jBL : Sh := ⟨pS :: .dead :: .dead :: pI :: dz 28 [], []⟩
def jyk (N : Nat) (j : List UInt8) : Z8 :=
 (iter (fun c (b, a) => bif decide (a < (b.length : Int)) then oB (idx b a) fun k => (bif !decide ((k.toNat : Int) = 42) then oB (idx b a) fun f => (bif !decide ((f.toNat : Int) = 63) then if fits (a + 1) then oB (cut b a (a + 1)) fun d => (oB (jT N d) fun e => bif !e then some false else if fits (a + 1) then c (b, (a + 1)) else none) else none else if fits (a + 1) then c (b, (a + 1)) else none) else if fits (a + 1) then c (b, (a + 1)) else none) else oB (jJ N (b.length : Int) 1 12) fun i => some i) N (j, (0 : Int)))
theorem jC1 (N : Nat) : mK 189 ⟨⟨[pS], []⟩, ⟨[pB], []⟩, c1A (jyk N)⟩ :=
 mO (fC (jgp N) (fC (jcL N) ja)) Tryz.func189 rfl N (.seq .no (.seq (.seq .no (.block (.loop jBL .no))) .no)) _
def jDP : Sh := ⟨.dead :: .box 1 0 :: .dead :: pI :: dz 4 (pI :: dz 123 (pB :: dz 34 [])), [(1, false, [pI, pS, .pv (.sl .str), pI, pI, .pv (.sl .q)])]⟩
def jyq (N : Nat) (a : Int) (c : List UInt8) (b : List Z0) (d : Int) (e : Int) (f : List DQ) : Z8 :=
 (bif decide (a = 1) then oB (jxz N a c b d e f false false false false) fun v => (some v) else bif decide (a = 2) then oB (jxz N a c b d e f true true false false) fun A => (bif A then oB (jT N c) fun z => (bif z then oB (jxL N b 1) fun U => (some U) else some false) else some false) else bif decide (a = 3) then oB (jxz N a c b d e f true true true false) fun L => (bif L then oB (jT N c) fun G => (bif G then oB (jxL N b 4) fun x => (bif x then bif decide ((1 : Int) < (b.length : Int)) then bif decide (e = 0) then oB (jJ N d 0 5) fun X => (some X) else (some false) else (some false) else some false) else some false) else some false) else bif decide (a = 4) then oB (jxz N a c b d e f true true true false) fun S => (bif S then oB (jT N c) fun V => (bif V then oB (jxL N b 1) fun B => (bif B then bif decide (e = 0) then oB (jJ N d 1 2) fun H => (some H) else (some false) else some false) else some false) else some false) else bif decide (a = 5) then oB (jxz N a c b d e f true true false false) fun O => (bif O then oB (jT N c) fun r => (bif r then bif decide ((b.length : Int) = 1) then oB (idx b 0) fun R => (oB (jyk N R) fun y => bif y then oB (idx b 0) fun w => (oB (jT N w) fun I => some (!I)) else some false) else (some false) else some false) else some false) else bif decide (a = 6) then oB (jxz N a c b d e f true false true false) fun u => (bif u then oB (jT N c) fun E => (bif E then oB (jJ N d 0 999999999) fun C => (bif C then oB (jJ N e d 999999999) fun K => (some K) else some false) else some false) else some false) else meet (fun (t : Int × Int × Bool × Int × Z0 × (List Z0) × Int × Int × (List DQ)) => match t with | (l, p, P, m, k, n, i, h, j) => bif P then oB (jxz N m k n i h j false false false true) fun D => (bif D then oB (jJ N l 2 4) fun q => (some q) else some false) else bif decide (p = 9) then oB (jxz N m k n i h j false false false true) fun T => (bif T then some (decide (l = 2)) else some false) else bif decide (p = 10) then oB (jxz N m k n i h j false false true true) fun Q => (bif Q then bif decide (l = 1) then bif decide (h = 0) then oB (jJ N i 2 9) fun W => (some W) else (some false) else (some false) else some false) else some false) fun o => bif decide (a = 7) then o ((f.length : Int), a, true, a, c, b, d, e, f) else o ((f.length : Int), a, (decide (a = 8)), a, c, b, d, e, f))
theorem jBO (N : Nat) : mK 136 ⟨⟨[.agg [pI, pS, .pv (.sl .str), pI, pI, .pv (.sl .q)]], []⟩, ⟨[pB], []⟩, c6A (jyq N)⟩ :=
 mO (fC (jDV N) (fC (jgp N) (fC (jDs N) (fC (jcL N) (fC (jC1 N) ja))))) Tryz.func136 rfl N (.seq .no (.seq .no (.seq (.seq .no (.block (.seq .no (.cond .no (.seq .no (.cond .no (.seq .no (.cond .no (.seq .no (.cond .no (.seq .no (.cond .no (.seq .no (.cond .no (.meet jDP .no .no))))))))))))))) .no))) _
def jD7 : Sh := ⟨.dead :: pI :: .box 2 0 :: .dead :: .dead :: pI :: dz 23 [], [(2, false, [pI, pS, .pv (.sl .str), pI, pI, .pv (.sl .q)])]⟩
def jxO (N : Nat) : (D : Nat) → Int → Z0 → (List Z0) → Int → Int → (List DQ) → Int → Z8
 | 0, _, _, _, _, _, _, _ => none
 | D + 1, q, q2, q3, q4, q5, q6, deep =>
 bif decide (deep = 0) then
 some false
 else
 oB (jyq N q q2 q3 q4 q5 q6) fun r =>
 bif !r then
 some false
 else
 iter (fun go (g : Int × Int × Int × Z0 × (List Z0) × Int × Int × (List DQ)) =>
 match g with
 | (deep2, i, q7, q8, q9, q10, q11, q12) =>
 bif decide (i < (q12.length : Int)) then
 oB (idx q12 i) fun e =>
 (if fits (deep2 - 1) then oB (jxO N D e.kind e.field e.words e.lo e.hi e.kids (deep2 - 1)) fun r2 =>
 (bif !r2 then
 some false
 else
 if fits (i + 1) then go (deep2, (i + 1), q7, q8, q9, q10, q11, q12) else none) else none)
 else
 some true) N (deep, 0, q, q2, q3, q4, q5, q6)
def jx9 (N D : Nat) : Model := ⟨⟨[.agg [pI, pS, .pv (.sl .str), pI, pI, .pv (.sl .q)], pI], []⟩, ⟨[pB], []⟩, c7A (jxO N D)⟩
theorem jBT (N D : Nat) (ih : mK 89 (jx9 N D)) : mK 89 (jx9 N (D + 1)) :=
 mO (fC ih (fC (jBO N) ja)) Tryz.func89 rfl N (.seq .no (.seq .no (.seq (.seq .no (.block (.loop jD7 .no))) .no))) (jx9 N (D + 1))
theorem jzV (N : Nat) : ∀ D, mK 89 (jx9 N D)
 | 0 => modelOk_none ⟨_, Tryz.func89, by decide, by kernel_rfl⟩ _ (fun a => rfl)
 | D + 1 => jBT N D (jzV N D)
def s_l11Ok_m (N : Nat) (e : Int) (a : List UInt8) (c : List Z0) (b : Int) (d : Int) (f : List DQ) : Z8 :=
 (oB (jxO N N e a c b d f 4) fun h => some h)
theorem jBX (N : Nat) : mK 49 ⟨⟨[.agg [pI, pS, .pv (.sl .str), pI, pI, .pv (.sl .q)]], []⟩, ⟨[pB], []⟩, c6A (s_l11Ok_m N)⟩ :=
 mO (fC (jzV N N) ja) Tryz.func49 rfl N .no _
def jA0 : Sh := ⟨.dead :: pI :: .box 2 0 :: .dead :: .box 4 0 :: pI :: dz 21 [], [(2, false, [.pv Y2, .pv Y4]), (4, false, [pI, .nils, .nils])]⟩
def jyv (N : Nat) (k : List Z2) (m : List Z1) (h : Int) : Option Z2 :=
 (iter (fun f (d, a, b, j, e) => bif decide (a < (b.length : Int)) then oB (idx b a) fun l => (bif decide (l.1 = d) then oB (idx b a) fun c => (some (c.1, c.2.1, c.2.2)) else if fits (a + 1) then f (d, (a + 1), b, j, e) else none) else some (0, ([] : Z16), ([] : Z9))) N (h, (0 : Int), k, m, (0 : Int)))
theorem jDn (N : Nat) : mK 50 ⟨⟨[.agg [.pv Y2, .pv Y4], pI], []⟩, ⟨[.agg [pI, .pv Y19, .pv Y15]], []⟩, c3A (jyv N)⟩ :=
 mO ja Tryz.func50 rfl N (.seq .no (.seq (.seq .no (.block (.loop jA0 .no))) .no)) _
def jyC (N : Nat) (d : List Z0) (a : List Z4) (c : List UInt8) : Option (Z0) :=
 (oB (jcw N d a) fun f => bif !f then some ([] : List UInt8) else oB (jT N c) fun e => bif !e then some ([] : List UInt8) else oB (ja5 N d a c) fun b => bif decide ((b.length : Int) = 0) then some ([] : List UInt8) else oB (idx b 0) fun h => some h.1)
theorem jCy (N : Nat) : mK 91 ⟨⟨[.agg [.pv (.sl .str), .pv Y16], pS], []⟩, ⟨[pS], []⟩, c3A (jyC N)⟩ :=
 mO (fC (jtf N) (fC (jgp N) (fC (jiO N) ja))) Tryz.func91 rfl N .no _
def jtm : Sh := ⟨.dead :: pS :: pS :: .box 3 0 :: dz 3 (pI :: dz 31 []), [(3, false, [.pv Y2, .pv Y4])]⟩
def s_l7Posts_m (N : Nat) (l : List Z2) (n : List Z1) (i : List UInt8) (h : List UInt8) : Option (Z12) :=
 (iter (fun f (c, d, a, e, b) => bif decide (a < (b.length : Int)) then oB (idx b a) fun m => (bif decide (m.1 = c) then oB (idx b a) fun o => (bif decide (o.2.1 = d) then oB (idx b a) fun k => (some k.2.2) else if fits (a + 1) then f (c, d, (a + 1), e, b) else none) else if fits (a + 1) then f (c, d, (a + 1), e, b) else none) else some ([] : Z3)) N (i, h, (0 : Int), l, n))
theorem jh6 (N : Nat) : mK 141 ⟨⟨[.agg [.pv Y2, .pv Y4], pS, pS], []⟩, ⟨[.pv Y11], []⟩, c4A (s_l7Posts_m N)⟩ :=
 mO ja Tryz.func141 rfl N (.seq .no (.seq (.seq .no (.block (.loop jtm .no))) .no)) _
def jst : Sh := ⟨dz 3 (pI :: dz 5 (.pv Y11 :: pI :: dz 22 [])), []⟩
def s_l12At_m (N : Nat) (j : List Z2) (m : List Z1) (e : List UInt8) (d : List UInt8) (h : Int) : Option ((List Int)) :=
 (oB (s_l7Posts_m N j m e d) fun k => iter (fun f (c, b, a) => bif decide (a < (b.length : Int)) then oB (idx b a) fun l => (bif decide (l.1 = c) then oB (idx b a) fun n => (some n.2) else if fits (a + 1) then f (c, b, (a + 1)) else none) else some ([] : List Int)) N (h, k, (0 : Int)))
theorem jn1 (N : Nat) : mK 137 ⟨⟨[.agg [.pv Y2, .pv Y4], pS, pS, pI], []⟩, ⟨[.pv Y21], []⟩, c5A (s_l12At_m N)⟩ :=
 mO (fC (jh6 N) ja) Tryz.func137 rfl N (.seq .no (.seq .no (.seq (.seq .no (.block (.loop jst .no))) .no))) _
def jqS : Sh := ⟨.dead :: pS :: pI :: .box 3 0 :: dz 3 (pI :: pI :: dz 55 []), [(3, false, [.pv Y2, .pv Y4])]⟩
def jm7 : Sh := ⟨.dead :: pS :: pI :: .box 3 0 :: dz 3 (pI :: pI :: pI :: dz 54 []), [(3, false, [.pv Y2, .pv Y4])]⟩
def s_l7Long_m (N : Nat) (z : List Z2) (B : List Z1) (A : List UInt8) (r : Int) : Z11 :=
 (iter (fun k (x, u, j, o, q, n) => bif decide (o < (n.length : Int)) then iter (fun l (f, d, e, a, c, h, b) => oB (idx b a) fun v => bif decide (c < (v.2.2.length : Int)) then oB (idx b a) fun w => (bif decide (w.1 = f) then oB (idx b a) fun y => (oB (idx y.2.2 c) fun p => bif decide (p.1 = d) then oB (idx b a) fun t => (oB (idx t.2.2 c) fun m => if fits (e + (m.2.length : Int)) then if fits (c + 1) then l (f, d, (e + (m.2.length : Int)), a, (c + 1), h, b) else none else none) else if fits (c + 1) then l (f, d, e, a, (c + 1), h, b) else none) else if fits (a + 1) then k (f, d, e, (a + 1), h, b) else none) else if fits (a + 1) then k (f, d, e, (a + 1), h, b) else none) N (x, u, j, o, (0 : Int), q, n) else some j) N (A, r, (0 : Int), (0 : Int), z, B))
theorem jrY (N : Nat) : mK 139 ⟨⟨[.agg [.pv Y2, .pv Y4], pS, pI], []⟩, ⟨[pI], []⟩, c4A (s_l7Long_m N)⟩ :=
 mO ja Tryz.func139 rfl N (.seq .no (.seq .no (.seq (.seq .no (.block (.loop jqS (.seq .no (.seq (.block (.seq .no (.block (.loop jm7 .no)))) .no))))) .no))) _
def jsB : Sh := ⟨.dead :: pS :: .box 2 0 :: .dead :: .dead :: pI :: pI :: dz 43 [], [(2, false, [.pv Y2, .pv Y4])]⟩
def jnl : Sh := ⟨.dead :: pS :: .box 2 0 :: .dead :: .dead :: pI :: pI :: pI :: dz 42 [], [(2, false, [.pv Y2, .pv Y4])]⟩
def s_l12Total_m (N : Nat) (u : List Z2) (w : List Z1) (v : List UInt8) : Z11 :=
 (iter (fun k (q, i, m, n, l) => bif decide (m < (l.length : Int)) then iter (fun r (d, c, a, e, h, b) => oB (idx b a) fun o => bif decide (e < (o.2.2.length : Int)) then oB (idx b a) fun p => (bif decide (p.1 = d) then oB (idx b a) fun t => (oB (idx t.2.2 e) fun j => if fits (c + (j.2.length : Int)) then if fits (e + 1) then r (d, (c + (j.2.length : Int)), a, (e + 1), h, b) else none else none) else if fits (a + 1) then k (d, c, (a + 1), h, b) else none) else if fits (a + 1) then k (d, c, (a + 1), h, b) else none) N (q, i, m, (0 : Int), n, l) else some i) N (v, (0 : Int), (0 : Int), u, w))
theorem jn2 (N : Nat) : mK 140 ⟨⟨[.agg [.pv Y2, .pv Y4], pS], []⟩, ⟨[pI], []⟩, c3A (s_l12Total_m N)⟩ :=
 mO ja Tryz.func140 rfl N (.seq .no (.seq .no (.seq (.seq .no (.block (.loop jsB (.seq .no (.seq (.block (.seq .no (.block (.loop jnl .no)))) .no))))) .no))) _
def jsx : Sh := ⟨pI :: pI :: dz 3 (pI :: dz 13 []), []⟩
def jbz (N : Nat) (d : Int) (h : Int) : Z11 :=
 (iter (fun e (a, c, b) => bif decide ((0 : Int) < a) then if fits (a * 2) then bif decide ((a * 2) ≤ c) then if fits (a * 2) then if fits (b + 1) then e ((a * 2), c, (b + 1)) else none else none else (some b) else none else some b) N (d, h, (0 : Int)))
theorem jkd (N : Nat) : mK 191 ⟨⟨[pI, pI], []⟩, ⟨[pI], []⟩, c2A (jbz N)⟩ :=
 mO ja Tryz.func191 rfl N (.seq .no (.seq .no (.seq (.block (.loop jsx .no)) .no))) _
def jkC : Sh := ⟨pI :: pI :: dz 15 [], []⟩
def jaY (N : Nat) : (D : Nat) → Int → Int → Z11
 | 0, _, _ => none
 | D + 1, a, b =>
 meet (fun (g : Int × Int) =>
 match g with
 | (a2, b2) =>
 bif decide (b2 = 0) then
 some a2
 else
 if b2 ≠ 0 then
 oB (jaY N D b2 (a2.tmod b2)) fun r =>
 (some r)
 else none) fun J =>
 bif decide (a < 0) then
 if fits (0 - a) then J ((0 - a), b) else none
 else
 J (a, b)
def jcQ (N D : Nat) : Model := ⟨⟨[pI, pI], []⟩, ⟨[pI], []⟩, c2A (jaY N D)⟩
theorem jlI (N D : Nat) (ih : mK 234 (jcQ N D)) : mK 234 (jcQ N (D + 1)) :=
 mO (fC ih ja) Tryz.func234 rfl N (.seq .no (.meet jkC .no .no)) (jcQ N (D + 1))
theorem jeF (N : Nat) : ∀ D, mK 234 (jcQ N D)
 | 0 => modelOk_none ⟨_, Tryz.func234, by decide, by kernel_rfl⟩ _ (fun a => rfl)
 | D + 1 => jlI N D (jeF N D)
def jlg : Sh := ⟨pI :: pI :: .dead :: .dead :: .box 4 0 :: dz 17 [], [(4, false, [pI, pI])]⟩
def jcf (N : Nat) (d : Int) (b : Int) : Option (Int × Int) :=
 (meet (fun (h : Int × Int × Int × Int) => match h with | (c, e, j, i) => oB (jaY N N c e) fun a => if a ≠ 0 then if fits (c.tdiv a) then if a ≠ 0 then if fits (e.tdiv a) then some ((c.tdiv a), (e.tdiv a)) else none else none else none else none) fun f => bif decide (b < 0) then if fits (0 - d) then if fits (0 - b) then f ((0 - d), (0 - b), 0, 0) else none else none else f (d, b, 0, 0))
theorem jn4 (N : Nat) : mK 190 ⟨⟨[pI, pI], []⟩, ⟨[.agg [pI, pI]], []⟩, c2A (jcf N)⟩ :=
 mO (fC (jeF N N) ja) Tryz.func190 rfl N (.seq .no (.meet jlg .no .no)) _
def jqT : Sh := ⟨pI :: .dead :: .dead :: pI :: pI :: dz 5 (.box 10 0 :: pI :: dz 21 []), [(10, false, [pI, pI])]⟩
def s_l12Term_m (N : Nat) (k : Int) (d : Int) (c : Int) (b : Int) (f : Int) : Option (Int × Int) :=
 (meet (fun (n : Int × Int × Int × Int × Int × Int) => match n with | (a, m, l, j, o, p) => oB (jbz N l m) fun e => if fits (1 + e) then if fits ((1 + e) * 22) then if fits (((1 + e) * 22) * a) then if fits (10 * a) then if fits ((10 * a) + 3) then if fits (((10 * a) + 3) + j) then oB (jcf N (((1 + e) * 22) * a) (((10 * a) + 3) + j)) fun i => (some (i.1, i.2)) else none else none else none else none else none else none) fun h => bif decide ((0 : Int) < c) then if fits (d * b) then if fits ((d * b) * 9) then if c ≠ 0 then if fits (((d * b) * 9).tdiv c) then h (k, b, f, (((d * b) * 9).tdiv c), 0, 0) else none else none else none else none else h (k, b, f, 1, 0, 0))
theorem jtF (N : Nat) : mK 138 ⟨⟨[pI, pI, pI, pI, pI], []⟩, ⟨[.agg [pI, pI]], []⟩, c5A (s_l12Term_m N)⟩ :=
 mO (fC (jkd N) (fC (jn4 N) ja)) Tryz.func138 rfl N (.seq .no (.seq .no (.meet jqT .no .no))) _
def s_l12Points_m (N : Nat) (b : List Z2) (d : List Z1) (c : List UInt8) (e : List UInt8) (f : Int) : Z11 :=
 (oB (s_l12At_m N b d c e f) fun h => bif decide ((h.length : Int) = 0) then some 0 else oB (s_l7Long_m N b d c f) fun j => oB (s_l12Total_m N b d c) fun i => oB (s_l7Posts_m N b d c e) fun k => oB (s_l12Term_m N (h.length : Int) j i (b.length : Int) (k.length : Int)) fun a => if fits (a.1 * 1000) then if a.2 ≠ 0 then if fits ((a.1 * 1000).tdiv a.2) then some ((a.1 * 1000).tdiv a.2) else none else none else none)
theorem jrZ (N : Nat) : mK 90 ⟨⟨[.agg [.pv Y2, .pv Y4], pS, pS, pI], []⟩, ⟨[pI], []⟩, c5A (s_l12Points_m N)⟩ :=
 mO (fC (jn1 N) (fC (jrY N) (fC (jn2 N) (fC (jh6 N) (fC (jtF N) ja))))) Tryz.func90 rfl N .no _
def jAu : Sh := ⟨.pv (.sl .str) :: pS :: dz 3 (pS :: pI :: dz 18 []), []⟩
def jxS (N : Nat) (l : List Z0) (m : List UInt8) : Option (Z0) :=
 (iter (fun o (f, a, b, c) => bif decide (c < (f.length : Int)) then meet (fun (d : (List Z0) × Z0 × Z0 × Int) => match d with | (k, n, h, e) => oB (idx k e) fun j => if h.length + j.length ≤ 9223372036854775807 then if fits (e + 1) then o (k, n, (h ++ j), (e + 1)) else none else none) fun i => (bif decide ((0 : Int) < c) then if b.length + a.length ≤ 9223372036854775807 then i (f, a, (b ++ a), c) else none else i (f, a, b, c)) else some b) N (l, m, ([] : List UInt8), (0 : Int)))
theorem jAy (N : Nat) : mK 145 ⟨⟨[.pv (.sl .str), pS], []⟩, ⟨[pS], []⟩, c2A (jxS N)⟩ :=
 mO ja Tryz.func145 rfl N (.seq .no (.seq .no (.seq (.seq .no (.block (.loop jAu (.seq .no (.seq (.block (.meet jAu .no .no)) .no))))) .no))) _
def jB2 : Sh := ⟨dz 3 (pI :: .dead :: .box 5 0 :: .box 6 0 :: .dead :: .dead :: .own 600009 Y21 54 true :: .own 600010 Y17 186 true :: pI :: dz 65 []), [(5, false, [.pv Y2, .pv Y4]), (6, false, [pI, pS, .pv (.sl .str), pI, pI, .pv (.sl .q)])]⟩
def jCf : Sh := ⟨dz 3 (pI :: .dead :: .box 5 0 :: .box 6 0 :: .dead :: .dead :: .own 600009 Y21 54 true :: .own 600010 Y17 186 true :: pI :: pI :: .pv Y21 :: .own 600014 tI 3 true :: pI :: dz 61 []), [(5, false, [.pv Y2, .pv Y4]), (6, false, [pI, pS, .pv (.sl .str), pI, pI, .pv (.sl .q)])]⟩
def jyf (N : Nat) (U : List Z0) (W : List Z4) (T : List Z2) (V : List Z1) (K : Int) (X : List UInt8) (B : List Z0) (P : Int) (aa : Int) (S : List DQ) (I : Int) : Option (Z18) :=
 (oB (jxS N B ([32] : List UInt8)) fun L => oB (ja5 N U W L) fun R => iter (fun H (z, D, e, c, C, E, ab, y, af, ac, O, ae) => bif decide (c < (e.length : Int)) then oB (idx e c) fun w => (oB (idx e 0) fun m => if fits (w.2 - m.2) then if fits ((w.2 - m.2) - c) then oB (idx e c) fun ad => (oB (s_l12At_m N C E y ad.1 z) fun Q => iter (fun A (r, h, v, i, b, f, d, a, o, q, j, n, k, x, u, p) => bif decide (a < (f.length : Int)) then oB (idx f a) fun G => (bif decide (b ≤ G) then oB (idx f a) fun t => (if fits (t - b) then if room d.length ([(t - b)] : List Int).length 8 then if fits (a + 1) then A (r, h, v, i, b, f, (d ++ ([(t - b)] : List Int)), (a + 1), o, q, j, n, k, x, u, p) else none else none else none) else if fits (a + 1) then A (r, h, v, i, b, f, d, (a + 1), o, q, j, n, k, x, u, p) else none) else if room h.length ([d] : List (List Int)).length 24 then if fits (i + 1) then H (r, (h ++ ([d] : List (List Int))), v, (i + 1), o, q, j, n, k, x, u, p) else none else none) N (z, D, e, c, ((w.2 - m.2) - c), Q, ([] : List Int), (0 : Int), C, E, ab, y, af, ac, O, ae)) else none else none) else some D) N (I, ([] : List (List Int)), R, (0 : Int), T, V, K, X, B, P, aa, S))
theorem jCm (N : Nat) : mK 143 ⟨⟨[.agg [.pv (.sl .str), .pv Y16], .agg [.pv Y2, .pv Y4], .agg [pI, pS, .pv (.sl .str), pI, pI, .pv (.sl .q)], pI], []⟩, ⟨[.own 1 Y21 54 true], []⟩, c11A (jyf N)⟩ :=
 mO (fC (jAy N) (fC (jiO N) (fC (jn1 N) ja))) Tryz.func143 rfl N (.seq .no (.seq .no (.seq .no (.seq (.seq .no (.block (.loop jB2 (.seq .no (.seq (.block (.seq .no (.seq .no (.seq .no (.seq (.seq .no (.block (.loop jCf .no))) .no))))) .no))))) .no)))) _
def jCI : Sh := ⟨.pv Y21 :: .dead :: .dead :: pI :: dz 31 [], []⟩
def jx3 (N : Nat) (d : List Int) : Z8 :=
 (iter (fun c (b, a) => bif decide (a < (b.length : Int)) then oB (idx b a) fun i => (oB (jJ N i 0 999999999) fun h => bif !h then some false else bif decide ((0 : Int) < a) then oB (idx b a) fun j => (if fits (a - 1) then oB (idx b (a - 1)) fun f => (bif decide (j ≤ f) then some false else if fits (a + 1) then c (b, (a + 1)) else none) else none) else if fits (a + 1) then c (b, (a + 1)) else none) else some (decide ((b.length : Int) ≤ 60))) N (d, (0 : Int)))
theorem jC9 (N : Nat) : mK 194 ⟨⟨[.pv Y21], []⟩, ⟨[pB], []⟩, c1A (jx3 N)⟩ :=
 mO (fC (jcL N) ja) Tryz.func194 rfl N (.seq .no (.seq (.seq .no (.block (.loop jCI .no))) .no)) _
def jBI : Sh := ⟨.pv (.sl Y21) :: pI :: pI :: pI :: pI :: dz 6 (pI :: dz 46 []), []⟩
def jxJ (N : Nat) : (D : Nat) → Z18 → Int → Int → Int → Int → Z8
 | 0, _, _, _, _, _ => none
 | D + 1, lists, k, last, start, slop =>
 bif decide (k = (lists.length : Int)) then
 if fits (last - start) then if fits ((lists.length : Int) - 1) then if fits ((last - start) - ((lists.length : Int) - 1)) then some (decide (((last - start) - ((lists.length : Int) - 1)) ≤ slop)) else none else none else none
 else
 iter (fun go (g : Z18 × Int × Int × Int × Int × Int) =>
 match g with
 | (lists2, k2, last2, start2, slop2, i) =>
 oB (idx lists2 k2) fun e =>
 bif decide (i < (e.length : Int)) then
 oB (idx lists2 k2) fun e2 =>
 (oB (idx e2 i) fun e3 =>
 bif decide (last2 < e3) then
 if fits (k2 + 1) then oB (idx lists2 k2) fun e4 =>
 (oB (idx e4 i) fun e5 =>
 oB (jxJ N D lists2 (k2 + 1) e5 start2 slop2) fun r =>
 bif r then
 some true
 else
 if fits (i + 1) then go (lists2, k2, last2, start2, slop2, (i + 1)) else none) else none
 else
 if fits (i + 1) then go (lists2, k2, last2, start2, slop2, (i + 1)) else none)
 else
 some false) N (lists, k, last, start, slop, 0)
def jyj (N D : Nat) : Model := ⟨⟨[.pv (.sl Y21), pI, pI, pI, pI], []⟩, ⟨[pB], []⟩, c5A (jxJ N D)⟩
theorem jD8 (N D : Nat) (ih : mK 195 (jyj N D)) : mK 195 (jyj N (D + 1)) :=
 mO (fC ih ja) Tryz.func195 rfl N (.seq .no (.seq .no (.seq (.seq .no (.block (.loop jBI .no))) .no))) (jyj N (D + 1))
theorem jzt (N : Nat) : ∀ D, mK 195 (jyj N D)
 | 0 => modelOk_none ⟨_, Tryz.func195, by decide, by kernel_rfl⟩ _ (fun a => rfl)
 | D + 1 => jD8 N D (jzt N D)
def jCF : Sh := ⟨.pv (.sl Y21) :: pI :: dz 3 (.own 600005 tI 3 true :: pI :: dz 56 []), []⟩
def jBd : Sh := ⟨.pv (.sl Y21) :: pI :: dz 3 (.own 600005 tI 3 true :: .dead :: pI :: dz 55 []), []⟩
def jyb (N : Nat) (v : List (List Int)) (p : Int) : Option ((List Int)) :=
 (iter (fun n (c, i, l, e) => bif decide (e < (c.length : Int)) then oB (idx c e) fun t => (oB (jx3 N t) fun r => bif !r then some ([] : List Int) else if fits (e + 1) then n (c, i, l, (e + 1)) else none) else oB (jJ N (c.length : Int) 1 6) fun y => bif !y then some ([] : List Int) else oB (jJ N i 0 5) fun w => bif !w then some ([] : List Int) else iter (fun j (b, f, d, a) => oB (idx b 0) fun u => bif decide (a < (u.length : Int)) then oB (idx b 0) fun z => (oB (idx z a) fun m => oB (idx b 0) fun o => oB (idx o a) fun x => oB (jxJ N N b 1 m x f) fun A => bif A then oB (idx b 0) fun q => (oB (idx q a) fun k => if room d.length ([k] : List Int).length 8 then if fits (a + 1) then j (b, f, (d ++ ([k] : List Int)), (a + 1)) else none else none) else if fits (a + 1) then j (b, f, d, (a + 1)) else none) else some d) N (c, i, l, (0 : Int))) N (v, p, ([] : List Int), (0 : Int)))
theorem jAW (N : Nat) : mK 144 ⟨⟨[.pv (.sl Y21), pI], []⟩, ⟨[.own 1 tI 3 true], []⟩, c2A (jyb N)⟩ :=
 mO (fC (jC9 N) (fC (jcL N) (fC (jzt N N) ja))) Tryz.func144 rfl N (.seq .no (.seq .no (.seq (.seq .no (.block (.loop jCF .no))) (.seq .no (.seq (.seq .no (.block (.loop jBd .no))) .no))))) _
def jCQ : Sh := ⟨dz 3 (pI :: .dead :: .box 5 0 :: .box 6 0 :: dz 3 (pI :: pI :: .own 600012 Y17 186 true :: pI :: dz 41 [])), [(5, false, [.pv Y2, .pv Y4]), (6, false, [pI, pS, .pv (.sl .str), pI, pI, .pv (.sl .q)])]⟩
def jCS : Sh := ⟨dz 3 (pI :: .box 4 0 :: .box 5 0 :: .box 6 0 :: dz 3 (pI :: dz 44 [])), [(4, false, [.pv (.sl .str), .pv Y16]), (5, false, [.pv Y2, .pv Y4]), (6, false, [pI, pS, .pv (.sl .str), pI, pI, .pv (.sl .q)])]⟩
def jx2 (N : Nat) (l : List Z0) (n : List Z4) (k : List Z2) (m : List Z1) (h : Int) (o : List UInt8) (p : List Z0) (a : Int) (q : Int) (j : List DQ) (f : Int) : Z11 :=
 (oB (jyf N l n k m h o p a q j f) fun r => bif decide ((r.length : Int) = 0) then some 0 else oB (jyb N r a) fun u => meet (fun (e : Int × Int × (List Z0) × (List Z4) × (List Z2) × (List Z1) × Int × Z0 × (List Z0) × Int × Int × (List DQ)) => match e with | (G, I, P, U, O, X, S, E, A, V, H, aa) => oB (jxS N A ([32] : List UInt8)) fun K => oB (ja5 N P U K) fun W => iter (fun D (z, d, b, i, c, v, w, B, t, C, T, Q, L) => bif decide (c < (i.length : Int)) then oB (idx i c) fun R => (oB (s_l12Points_m N v w t R.1 z) fun x => if fits (b + x) then if fits (c + 1) then D (z, d, (b + x), i, (c + 1), v, w, B, t, C, T, Q, L) else none else none) else if fits (b * d) then some (b * d) else none) N (G, I, (0 : Int), W, (0 : Int), O, X, S, E, A, V, H, aa)) fun y => bif decide ((3 : Int) < (u.length : Int)) then y (f, 3, l, n, k, m, h, o, p, a, q, j) else y (f, (u.length : Int), l, n, k, m, h, o, p, a, q, j))
theorem jAL (N : Nat) : mK 92 ⟨⟨[.agg [.pv (.sl .str), .pv Y16], .agg [.pv Y2, .pv Y4], .agg [pI, pS, .pv (.sl .str), pI, pI, .pv (.sl .q)], pI], []⟩, ⟨[pI], []⟩, c11A (jx2 N)⟩ :=
 mO (fC (jCm N) (fC (jAW N) (fC (jAy N) (fC (jiO N) (fC (jrZ N) ja))))) Tryz.func92 rfl N (.seq .no (.seq .no (.seq .no (.seq .no (.meet jCS .no (.seq .no (.seq .no (.seq (.seq .no (.block (.loop jCQ .no))) .no)))))))) _
def s_l5Min_m (N : Nat) (b : Int) (a : Int) : Z11 :=
 (bif decide (b < a) then some b else some a)
theorem jDQ (N : Nat) : mK 81 ⟨⟨[pI, pI], []⟩, ⟨[pI], []⟩, c2A (s_l5Min_m N)⟩ :=
 mO ja Tryz.func81 rfl N .no _
def jCw : Sh := ⟨pS :: pS :: dz 3 (.mtk 600005 tI 3 true :: pI :: dz 74 []), []⟩
def jDJ : Sh := ⟨pS :: pS :: dz 3 (.mtk 600005 tI 3 true :: .dead :: pI :: dz 73 []), []⟩
def jDM : Sh := ⟨pS :: pS :: dz 3 (.mtk 600005 tI 3 true :: .dead :: pI :: pI :: pI :: dz 71 []), []⟩
def jBZ : Sh := ⟨pS :: pS :: dz 3 (.mtk 600005 tI 3 true :: .dead :: pI :: .dead :: pI :: pI :: dz 70 []), []⟩
def s_l5Far_m (N : Nat) (P : List UInt8) (c : List UInt8) : Z11 :=
 (if fits ((c.length : Int) + 1) then if ((c.length : Int) + 1) = ((c.length : Int) + 1) ∧ 0 ≤ ((c.length : Int) + 1) ∧ ((c.length : Int) + 1) * 8 ≤ 140737488355328 ∧ ((c.length : Int) + 1) ≤ 140737488355328 then iter (fun x (t, p, j, d) => bif decide (d ≤ (p.length : Int)) then if 0 ≤ d ∧ d < (j.length : Int) then oB (j[d.toNat]?) fun R => (if fits (d + 1) then x (t, p, (j.set d.toNat d), (d + 1)) else none) else none else iter (fun A (u, l, f, n) => bif decide (n < (u.length : Int)) then if 0 ≤ (0 : Int) ∧ (0 : Int) < (f.length : Int) then oB (f[(0 : Int).toNat]?) fun y => (if fits (n + 1) then if 0 ≤ (0 : Int) ∧ (0 : Int) < (f.length : Int) then oB (f[(0 : Int).toNat]?) fun S => (iter (fun B (k, i, o, h, q, m) => bif decide (m < (i.length : Int)) then meet (fun (e : Z19) => match e with | (D, z, b, K, a, G) => if fits (a + 1) then if 0 ≤ (a + 1) ∧ (a + 1) < (b.length : Int) then oB (b[(a + 1).toNat]?) fun w => (if fits (a + 1) then if 0 ≤ a ∧ a < (b.length : Int) then oB (b[a.toNat]?) fun I => (if fits (a + 1) then if 0 ≤ (a + 1) ∧ (a + 1) < (b.length : Int) then oB (b[(a + 1).toNat]?) fun O => (oB (s_l5Min_m N I O) fun r => if fits (r + 1) then oB (s_l5Min_m N G (r + 1)) fun C => (if 0 ≤ (a + 1) ∧ (a + 1) < (b.length : Int) then oB (b[(a + 1).toNat]?) fun Q => (if fits (a + 1) then B (D, z, (b.set (a + 1).toNat C), K, w, (a + 1)) else none) else none) else none) else none else none) else none else none) else none else none) fun v => (oB (idx k h) fun E => oB (idx i m) fun H => bif !decide ((E.toNat : Int) = (H.toNat : Int)) then if fits (q + 1) then v (k, i, o, h, m, (q + 1)) else none else v (k, i, o, h, m, q)) else if fits (h + 1) then A (k, i, o, (h + 1)) else none) N (u, l, (f.set (0 : Int).toNat (n + 1)), n, y, (0 : Int))) else none else none) else none else if 0 ≤ (l.length : Int) ∧ (l.length : Int) < (f.length : Int) then oB (f[(l.length : Int).toNat]?) fun L => (some L) else none) N (t, p, j, (0 : Int))) N (P, c, (List.replicate ((c.length : Int) + 1).toNat 0), (0 : Int)) else none else none)
theorem jBt (N : Nat) : mK 146 ⟨⟨[pS, pS], []⟩, ⟨[pI], []⟩, c2A (s_l5Far_m N)⟩ :=
 mO (fC (jDQ N) ja) Tryz.func146 rfl N (.seq .no (.seq .no (.seq (.seq .no (.block (.loop jCw .no))) (.seq (.seq .no (.block (.loop jDJ (.seq .no (.seq (.block (.seq .no (.seq .no (.seq .no (.block (.loop jDM (.seq .no (.seq (.block (.seq .no (.meet jBZ .no .no))) .no)))))))) .no))))) .no)))) _ (wr := [14])
def jC5 : Sh := ⟨.dead :: .dead :: pI :: .box 3 0 :: .box 4 0 :: .dead :: .dead :: pI :: pI :: dz 49 [], [(3, false, [.pv Y2, .pv Y4]), (4, false, [pI, pS, .pv (.sl .str), pI, pI, .pv (.sl .q)])]⟩
def jx5 (N : Nat) (A : List Z2) (B : List Z1) (w : Int) (q : List UInt8) (r : List Z0) (y : Int) (t : Int) (z : List DQ) (u : Int) : Z11 :=
 (iter (fun k (h, f, a, e, b, l, c, j, i, m, o) => bif decide (a < (b.length : Int)) then oB (idx b a) fun p => (oB (idx j 0) fun x => oB (s_l5Far_m N p.2.1 x) fun d => bif !decide (p.1 = c) then if fits (a + 1) then k (h, f, (a + 1), e, b, l, c, j, i, m, o) else none else bif decide (i < d) then if fits (a + 1) then k (h, f, (a + 1), e, b, l, c, j, i, m, o) else none else oB (s_l12Points_m N e b c p.2.1 h) fun n => if fits (3 - d) then if fits (n * (3 - d)) then if 3 ≠ 0 then if fits ((n * (3 - d)).tdiv 3) then bif decide (f < ((n * (3 - d)).tdiv 3)) then if fits (a + 1) then k (h, ((n * (3 - d)).tdiv 3), (a + 1), e, b, l, c, j, i, m, o) else none else (if fits (a + 1) then k (h, f, (a + 1), e, b, l, c, j, i, m, o) else none) else none else none else none else none) else some f) N (u, (0 : Int), (0 : Int), A, B, w, q, r, y, t, z))
theorem jCb (N : Nat) : mK 93 ⟨⟨[.agg [.pv Y2, .pv Y4], .agg [pI, pS, .pv (.sl .str), pI, pI, .pv (.sl .q)], pI], []⟩, ⟨[pI], []⟩, c9A (jx5 N)⟩ :=
 mO (fC (jBt N) (fC (jrZ N) ja)) Tryz.func93 rfl N (.seq .no (.seq .no (.seq (.seq .no (.block (.loop jC5 .no))) .no))) _
def jxB (N : Nat) : (D : Nat) → Z0 → Z0 → Z8
 | 0, _, _ => none
 | D + 1, p, s =>
 bif decide (p = ([] : List UInt8)) then
 some (decide (s = ([] : List UInt8)))
 else
 oB (idx p 0) fun c =>
 bif decide ((c.toNat : Int) = 42) then
 oB (cut p 1 (p.length : Int)) fun y =>
 (oB (jxB N D y s) fun r =>
 bif r then
 some true
 else
 bif !decide (s = ([] : List UInt8)) then
 oB (cut s 1 (s.length : Int)) fun y2 =>
 (oB (jxB N D p y2) fun r2 =>
 some r2)
 else
 some false)
 else
 bif !decide (s = ([] : List UInt8)) then
 oB (idx p 0) fun c2 =>
 (bif decide ((c2.toNat : Int) = 63) then
 oB (cut p 1 (p.length : Int)) fun y3 =>
 (oB (cut s 1 (s.length : Int)) fun y4 =>
 oB (jxB N D y3 y4) fun r3 =>
 some r3)
 else
 oB (idx p 0) fun c3 =>
 oB (idx s 0) fun c4 =>
 bif decide ((c3.toNat : Int) = (c4.toNat : Int)) then
 oB (cut p 1 (p.length : Int)) fun y5 =>
 (oB (cut s 1 (s.length : Int)) fun y6 =>
 oB (jxB N D y5 y6) fun r4 =>
 some r4)
 else
 some false)
 else
 some false
def jyr (N D : Nat) : Model := ⟨⟨[pS, pS], []⟩, ⟨[pB], []⟩, c2A (jxB N D)⟩
theorem jDg (N D : Nat) (ih : mK 147 (jyr N D)) : mK 147 (jyr N (D + 1)) :=
 mO (fC ih ja) Tryz.func147 rfl N .no (jyr N (D + 1))
theorem jzM (N : Nat) : ∀ D, mK 147 (jyr N D)
 | 0 => modelOk_none ⟨_, Tryz.func147, by decide, by kernel_rfl⟩ _ (fun a => rfl)
 | D + 1 => jDg N D (jzM N D)
def jBi : Sh := ⟨.dead :: .dead :: pI :: .box 3 0 :: .box 4 0 :: .dead :: .dead :: pI :: dz 38 [], [(3, false, [.pv Y2, .pv Y4]), (4, false, [pI, pS, .pv (.sl .str), pI, pI, .pv (.sl .q)])]⟩
def jyd (N : Nat) (z : List Z2) (A : List Z1) (t : Int) (n : List UInt8) (o : List Z0) (w : Int) (p : Int) (y : List DQ) (q : Int) : Z8 :=
 (iter (fun h (e, a, d, b, k, c, f, l, j, m) => bif decide (a < (b.length : Int)) then oB (idx b a) fun i => (bif decide (i.1 = c) then oB (idx f 0) fun v => (oB (jxB N N v i.2.1) fun u => bif u then oB (s_l12At_m N d b c i.2.1 e) fun x => (bif decide ((0 : Int) < (x.length : Int)) then some true else if fits (a + 1) then h (e, (a + 1), d, b, k, c, f, l, j, m) else none) else if fits (a + 1) then h (e, (a + 1), d, b, k, c, f, l, j, m) else none) else if fits (a + 1) then h (e, (a + 1), d, b, k, c, f, l, j, m) else none) else some false) N (q, (0 : Int), z, A, t, n, o, w, p, y))
theorem jCi (N : Nat) : mK 95 ⟨⟨[.agg [.pv Y2, .pv Y4], .agg [pI, pS, .pv (.sl .str), pI, pI, .pv (.sl .q)], pI], []⟩, ⟨[pB], []⟩, c9A (jyd N)⟩ :=
 mO (fC (jzM N N) (fC (jn1 N) ja)) Tryz.func95 rfl N (.seq .no (.seq (.seq .no (.block (.loop jBi .no))) .no)) _
def jyV (N : Nat) (a : Bool) : Z11 :=
 (bif a then some 100 else some 0)
theorem jCo (N : Nat) : mK 94 ⟨⟨[pB], []⟩, ⟨[pI], []⟩, c1A (jyV N)⟩ :=
 mO ja Tryz.func94 rfl N .no _
def jym (N : Nat) (l : Int) (d : Z16) (j : Z9) (i : List UInt8) : Z11 :=
 (iter (fun e (c, a, k, f, b) => bif decide (a < (b.length : Int)) then oB (idx b a) fun m => (bif decide (m.1 = c) then oB (idx b a) fun n => (some n.2) else if fits (a + 1) then e (c, (a + 1), k, f, b) else none) else some (-1)) N (i, (0 : Int), l, d, j))
theorem jDS (N : Nat) : mK 96 ⟨⟨[.agg [pI, .pv Y19, .pv Y15], pS], []⟩, ⟨[pI], []⟩, c4A (jym N)⟩ :=
 mO ja Tryz.func96 rfl N (.seq .no (.seq (.seq .no (.block (.loop jl8 .no))) .no)) _
def jDX : Sh := ⟨dz 3 (pI :: .box 4 0 :: .box 5 0 :: .box 6 0 :: .dead :: .dead :: pI :: pI :: dz 111 []), [(4, false, [.pv (.sl .str), .pv Y16]), (5, false, [.pv Y2, .pv Y4]), (6, false, [pI, pS, .pv (.sl .str), pI, pI, .pv (.sl .q)])]⟩
def s_l12Score_m (N : Nat) : (D : Nat) → (List Z0) → (List Z4) → (List Z2) → (List Z1) → Int → Z0 → (List Z0) → Int → Int → (List DQ) → Int → Z11
 | 0, _, _, _, _, _, _, _, _, _, _, _ => none
 | D + 1, c, c2, s, s2, q, q2, q3, q4, q5, q6, id =>
 bif decide (q = 1) then
 some 100
 else
 bif decide (q = 2) then
 oB (idx q3 0) fun e =>
 (oB (jyC N c c2 e) fun r =>
 oB (s_l12Points_m N s s2 q2 r id) fun r2 =>
 some r2)
 else
 bif decide (q = 3) then
 oB (jx2 N c c2 s s2 q q2 q3 q4 q5 q6 id) fun r3 =>
 (some r3)
 else
 bif decide (q = 4) then
 oB (jx5 N s s2 q q2 q3 q4 q5 q6 id) fun r4 =>
 (some r4)
 else
 bif decide (q = 5) then
 oB (jyd N s s2 q q2 q3 q4 q5 q6 id) fun r5 =>
 (oB (jyV N r5) fun r6 =>
 some r6)
 else
 bif decide (q = 6) then
 oB (jyv N s s2 id) fun r7 =>
 (oB (jym N r7.1 r7.2.1 r7.2.2 q2) fun r8 =>
 oB (jJ N r8 q4 q5) fun r9 =>
 oB (jyV N r9) fun r10 =>
 some r10)
 else
 bif decide (q = 10) then
 oB (idx q6 0) fun e2 =>
 (oB (s_l12Score_m N D c c2 s s2 e2.kind e2.field e2.words e2.lo e2.hi e2.kids id) fun r11 =>
 if fits (q4 * r11) then some (q4 * r11) else none)
 else
 bif decide (q = 9) then
 oB (idx q6 1) fun e3 =>
 (oB (s_l12Score_m N D c c2 s s2 e3.kind e3.field e3.words e3.lo e3.hi e3.kids id) fun r12 =>
 bif decide ((0 : Int) < r12) then
 some 0
 else
 oB (idx q6 0) fun e4 =>
 oB (s_l12Score_m N D c c2 s s2 e4.kind e4.field e4.words e4.lo e4.hi e4.kids id) fun r13 =>
 some r13)
 else
 iter (fun go (g : Int × Int × Int × (List Z0) × (List Z4) × (List Z2) × (List Z1) × Int × Z0 × (List Z0) × Int × Int × (List DQ)) =>
 match g with
 | (id2, sum, i, c3, c4, s3, s4, q7, q8, q9, q10, q11, q12) =>
 bif decide (i < (q12.length : Int)) then
 oB (idx q12 i) fun e5 =>
 (oB (s_l12Score_m N D c3 c4 s3 s4 e5.kind e5.field e5.words e5.lo e5.hi e5.kids id2) fun r14 =>
 bif decide (r14 = 0) then
 bif decide (q7 = 7) then
 some 0
 else
 (if fits (sum + r14) then if fits (i + 1) then go (id2, (sum + r14), (i + 1), c3, c4, s3, s4, q7, q8, q9, q10, q11, q12) else none else none)
 else
 if fits (sum + r14) then if fits (i + 1) then go (id2, (sum + r14), (i + 1), c3, c4, s3, s4, q7, q8, q9, q10, q11, q12) else none else none)
 else
 some sum) N (id, 0, 0, c, c2, s, s2, q, q2, q3, q4, q5, q6)
def jyz (N D : Nat) : Model := ⟨⟨[.agg [.pv (.sl .str), .pv Y16], .agg [.pv Y2, .pv Y4], .agg [pI, pS, .pv (.sl .str), pI, pI, .pv (.sl .q)], pI], []⟩, ⟨[pI], []⟩, c11A (s_l12Score_m N D)⟩
theorem jBH (N D : Nat) (ih : mK 51 (jyz N D)) : mK 51 (jyz N (D + 1)) :=
 mO (fC ih (fC (jCy N) (fC (jrZ N) (fC (jAL N) (fC (jCb N) (fC (jCi N) (fC (jCo N) (fC (jDn N) (fC (jDS N) (fC (jcL N) ja)))))))))) Tryz.func51 rfl N (.seq .no (.seq .no (.seq .no (.seq (.seq .no (.block (.loop jDX .no))) .no)))) (jyz N (D + 1))
theorem jz7 (N : Nat) : ∀ D, mK 51 (jyz N D)
 | 0 => modelOk_none ⟨_, Tryz.func51, by decide, by kernel_rfl⟩ _ (fun a => rfl)
 | D + 1 => jBH N D (jz7 N D)
def jqv : Sh := ⟨.dead :: pI :: .dead :: .dead :: .box 4 0 :: dz 6 (.pv Y2 :: pI :: pI :: dz 10 []), [(4, false, [pI, .nils, .nils])]⟩
def i_Seg_doc_m (N : Nat) (d : (List Z2) × (List Z1)) (j : Int) : Option (Int × Z13 × Z7 × Bool) :=
 (iter (fun i (e, f, c, b, h) => bif decide (b < c) then oB (idx f b) fun a => (bif decide (a.1 = e) then some (a.1, a.2.1, a.2.2, true) else if fits (b + 1) then i (e, f, c, (b + 1), h) else none) else some (0, ([] : Z16), ([] : Z9), false)) N (j, d.1, (d.1.length : Int), (0 : Int), (0 : Int)))
theorem jlU (N : Nat) : mK 57 ⟨⟨[.ptr Y1, pI], []⟩, ⟨[.tup [.agg [pI, .pv Y19, .pv Y15], pB]], []⟩, c2A (i_Seg_doc_m N)⟩ :=
 mO ja Tryz.func57 rfl N (.seq .no (.seq (.seq .no (.block (.loop jqv .no))) .no)) _
def jaw (N : Nat) (a : Int) : Z8 :=
 (bif decide ((97 : Int) ≤ a) then bif decide (a ≤ 122) then some true else (bif decide ((48 : Int) ≤ a) then some (decide (a ≤ 57)) else some false) else bif decide ((48 : Int) ≤ a) then some (decide (a ≤ 57)) else some false)
theorem jeK (N : Nat) : mK 199 ⟨⟨[.pv (.int .u8)], []⟩, ⟨[pB], []⟩, c1A (jaw N)⟩ :=
 mO ja Tryz.func199 rfl N .no _
def jm (N : Nat) (a : Int) (c : Int) (b : Int) : Z8 :=
 (bif decide (c ≤ a) then some (decide (a ≤ b)) else some false)
theorem jY (N : Nat) : mK 74 ⟨⟨[pI, pI, pI], []⟩, ⟨[pB], []⟩, c3A (jm N)⟩ :=
 mO ja Tryz.func74 rfl N .no _
def jqW : Sh := ⟨pS :: dz 4 (pI :: pI :: dz 11 []), []⟩
def jO (N : Nat) (d : List UInt8) : Z8 :=
 (iter (fun e (b, c, a) => bif decide (a < c) then oB (idx b a) fun j => (oB (jaw N (j.toNat : Int)) fun i => bif !i then some false else if fits (a + 1) then e (b, c, (a + 1)) else none) else oB (jm N (b.length : Int) 1 12) fun h => some h) N (d, (d.length : Int), (0 : Int)))
theorem jcM (N : Nat) : mK 152 ⟨⟨[pS], []⟩, ⟨[pB], []⟩, c1A (jO N)⟩ :=
 mO (fC (jeK N) (fC (jY N) ja)) Tryz.func152 rfl N (.seq .no (.seq (.seq .no (.block (.loop jqW .no))) .no)) _
def jmc : Sh := ⟨.pv (.sl .str) :: dz 4 (.pv (.sl .str) :: pI :: pI :: dz 21 []), []⟩
def jb2 (N : Nat) (b : List Z0) : Z8 :=
 (iter (fun f (e, c, d, a) => bif decide (a < d) then oB (idx c a) fun h => (oB (jO N h) fun j => bif !j then some false else bif decide ((0 : Int) < a) then if fits (a - 1) then oB (idx e (a - 1)) fun k => (bif !Op.bytesLess k h then some false else if fits (a + 1) then f (e, c, d, (a + 1)) else none) else none else if fits (a + 1) then f (e, c, d, (a + 1)) else none) else some true) N (b, b, (b.length : Int), (0 : Int)))
theorem jtw (N : Nat) : mK 151 ⟨⟨[.pv (.sl .str)], []⟩, ⟨[pB], []⟩, c1A (jb2 N)⟩ :=
 mO (fC (jcM N) ja) Tryz.func151 rfl N (.seq .no (.seq (.seq .no (.block (.loop jmc .no))) .no)) _
def jdF (N : Nat) (a : List UInt8) (b : List UInt8) : Z8 :=
 (bif decide ((b.length : Int) ≤ (a.length : Int)) then if fits ((a.length : Int) - (b.length : Int)) then oB (cut a ((a.length : Int) - (b.length : Int)) (a.length : Int)) fun c => (some (decide (c = b))) else none else some false)
theorem jpU (N : Nat) : mK 238 ⟨⟨[pS, pS], []⟩, ⟨[pB], []⟩, c2A (jdF N)⟩ :=
 mO ja Tryz.func238 rfl N .no _
def jcN (N : Nat) (b : List UInt8) (a : List UInt8) : Z8 :=
 (oB (jdF N b a) fun c => some c)
theorem jsu (N : Nat) : mK 200 ⟨⟨[pS, pS], []⟩, ⟨[pB], []⟩, c2A (jcN N)⟩ :=
 mO (fC (jpU N) ja) Tryz.func200 rfl N .no _
def jod : Sh := ⟨pS :: .dead :: .dead :: pB :: dz 32 [], []⟩
def jnf : Sh := ⟨pS :: .dead :: .dead :: pB :: dz 6 (.own 600010 .str 9 true :: pI :: pI :: dz 23 []), []⟩
def jaB (N : Nat) (k : List UInt8) : Option (Z0) :=
 (oB (jO N k) fun p => bif !p then some ([] : List UInt8) else iter (fun i (l, n) => bif n then iter (fun j (a, e, h, d, b) => bif decide (b < d) then oB (idx h b) fun c => (oB (jcN N a c) fun o => bif o then if fits ((a.length : Int) - (c.length : Int)) then bif decide ((3 : Int) ≤ ((a.length : Int) - (c.length : Int))) then if fits ((a.length : Int) - (c.length : Int)) then oB (cut a 0 ((a.length : Int) - (c.length : Int))) fun m => (i (m, true)) else none else (if fits (b + 1) then j (a, e, h, d, (b + 1)) else none) else none else if fits (b + 1) then j (a, e, h, d, (b + 1)) else none) else i (a, e)) N (l, false, ([([105, 110, 103] : List UInt8), ([101, 100] : List UInt8), ([101, 115] : List UInt8), ([108, 121] : List UInt8), ([115] : List UInt8)] : List Z0), (([([105, 110, 103] : List UInt8), ([101, 100] : List UInt8), ([101, 115] : List UInt8), ([108, 121] : List UInt8), ([115] : List UInt8)] : List Z0).length : Int), (0 : Int)) else some l) N (k, true))
theorem jio (N : Nat) : mK 153 ⟨⟨[pS], []⟩, ⟨[pS], []⟩, c1A (jaB N)⟩ :=
 mO (fC (jcM N) (fC (jsu N) ja)) Tryz.func153 rfl N (.seq .no (.seq .no (.seq (.seq .no (.block (.loop jod (.seq .no (.block (.seq .no (.seq .no (.block (.loop jnf .no))))))))) .no))) _
def jkJ : Sh := ⟨.pv (.sl .str) :: pS :: dz 5 (pI :: pI :: dz 10 []), []⟩
def jdH (N : Nat) (d : List Z0) (f : List UInt8) : Z11 :=
 (iter (fun h (e, b, c, a) => bif decide (a < c) then oB (idx e a) fun j => (bif decide (b = j) then some a else if fits (a + 1) then h (e, b, c, (a + 1)) else none) else some (-1)) N (d, f, (d.length : Int), (0 : Int)))
theorem jkZ (N : Nat) : mK 201 ⟨⟨[.pv (.sl .str), pS], []⟩, ⟨[pI], []⟩, c2A (jdH N)⟩ :=
 mO ja Tryz.func201 rfl N (.seq .no (.seq (.seq .no (.block (.loop jkJ .no))) .no)) _
def jao (N : Nat) (b : List Z0) (a : List UInt8) : Z8 :=
 (oB (jdH N b a) fun c => some (decide ((0 : Int) ≤ c)))
theorem jh5 (N : Nat) : mK 154 ⟨⟨[.pv (.sl .str), pS], []⟩, ⟨[pB], []⟩, c2A (jao N)⟩ :=
 mO (fC (jkZ N) ja) Tryz.func154 rfl N .no _
def jmj : Sh := ⟨.dead :: .box 1 0 :: dz 22 (.pv Y16 :: pI :: pI :: dz 46 []), [(1, false, [.pv (.sl .str), .pv Y16])]⟩
def jrC : Sh := ⟨.dead :: .box 1 0 :: dz 22 (.pv Y16 :: pI :: pI :: dz 12 (pB :: dz 7 (pB :: .dead :: .dead :: .pv (.sl .str) :: pI :: pI :: dz 20 []))), [(1, false, [.pv (.sl .str), .pv Y16])]⟩
def jaj (N : Nat) (j : List Z0) (c : List Z4) : Z8 :=
 (bif decide ((6 : Int) < (j.length : Int)) then some false else oB (jb2 N j) fun y => bif !y then some false else bif decide ((4 : Int) < (c.length : Int)) then some false else iter (fun v (m, q, h, w, B) => bif decide (h < q) then oB (idx m h) fun a => (oB (jm N (a.1.length : Int) 1 3) fun D => bif !D then some false else oB (jO N a.2) fun p => bif !p then some false else oB (jaB N a.2) fun r => bif !decide (r = a.2) then some false else iter (fun C (t, k, i, x, z, l, o, b, f, n) => bif decide (b < o) then oB (idx l b) fun d => (oB (jO N d) fun u => bif !u then some false else oB (jaB N d) fun E => bif !decide (E = d) then some false else oB (jao N f d) fun A => bif A then some false else if fits (b + 1) then C (t, k, i, x, z, l, o, (b + 1), f, n) else none) else if fits (i + 1) then v (t, k, (i + 1), f, n) else none) N (m, q, h, (!p), (!decide (r = a.2)), a.1, (a.1.length : Int), (0 : Int), w, B)) else some true) N (c, (c.length : Int), (0 : Int), j, c))
theorem jdX (N : Nat) : mK 100 ⟨⟨[.agg [.pv (.sl .str), .pv Y16]], []⟩, ⟨[pB], []⟩, c2A (jaj N)⟩ :=
 mO (fC (jtw N) (fC (jY N) (fC (jcM N) (fC (jio N) (fC (jh5 N) ja))))) Tryz.func100 rfl N (.seq .no (.seq .no (.seq (.seq .no (.block (.loop jmj (.seq .no (.seq .no (.seq (.block (.seq .no (.seq .no (.seq .no (.block (.loop jrC .no)))))) .no)))))) .no))) _
def jtd : Sh := ⟨pS :: dz 4 (pI :: pI :: dz 16 []), []⟩
def jaF (N : Nat) (d : List UInt8) : Z8 :=
 (iter (fun f (b, c, a) => bif decide (a < c) then oB (idx b a) fun i => (bif decide ((i.toNat : Int) < 32) then some false else oB (idx b a) fun e => bif decide ((126 : Int) < (e.toNat : Int)) then some false else if fits (a + 1) then f (b, c, (a + 1)) else none) else some (decide ((b.length : Int) ≤ 160))) N (d, (d.length : Int), (0 : Int)))
theorem jdK (N : Nat) : mK 202 ⟨⟨[pS], []⟩, ⟨[pB], []⟩, c1A (jaF N)⟩ :=
 mO ja Tryz.func202 rfl N (.seq .no (.seq (.seq .no (.block (.loop jtd .no))) .no)) _
def jlC : Sh := ⟨.dead :: .box 1 0 :: dz 22 (.pv Y19 :: pI :: pI :: dz 66 []), [(1, false, [pI, .pv Y19, .pv Y15])]⟩
def jpt : Sh := ⟨.dead :: .box 1 0 :: dz 57 (.pv Y15 :: pI :: pI :: dz 31 []), [(1, false, [pI, .pv Y19, .pv Y15])]⟩
def jbx (N : Nat) (r : Int) (d : Z16) (q : Z9) : Z8 :=
 (oB (jm N r 1 9999) fun y => bif !y then some false else bif decide ((3 : Int) < (d.length : Int)) then some false else bif decide ((3 : Int) < (q.length : Int)) then some false else iter (fun p (k, m, a, n, e, c) => bif decide (a < m) then oB (idx k a) fun i => (oB (jO N i.1) fun B => bif !B then some false else oB (jaF N i.2) fun A => bif !A then some false else bif decide ((0 : Int) < a) then if fits (a - 1) then oB (idx e (a - 1)) fun z => (bif !Op.bytesLess z.1 i.1 then some false else if fits (a + 1) then p (k, m, (a + 1), n, e, c) else none) else none else if fits (a + 1) then p (k, m, (a + 1), n, e, c) else none) else iter (fun v (o, f, b, t, u, j) => bif decide (b < f) then oB (idx o b) fun l => (oB (jO N l.1) fun C => bif !C then some false else oB (jm N l.2 0 999999999) fun x => bif !x then some false else bif decide ((0 : Int) < b) then if fits (b - 1) then oB (idx j (b - 1)) fun w => (bif !Op.bytesLess w.1 l.1 then some false else if fits (b + 1) then v (o, f, (b + 1), t, u, j) else none) else none else if fits (b + 1) then v (o, f, (b + 1), t, u, j) else none) else some true) N (c, (c.length : Int), (0 : Int), n, e, c)) N (d, (d.length : Int), (0 : Int), r, d, q))
theorem jh0 (N : Nat) : mK 155 ⟨⟨[.agg [pI, .pv Y19, .pv Y15]], []⟩, ⟨[pB], []⟩, c3A (jbx N)⟩ :=
 mO (fC (jY N) (fC (jcM N) (fC (jdK N) ja))) Tryz.func155 rfl N (.seq .no (.seq .no (.seq (.seq .no (.block (.loop jlC .no))) (.seq (.seq .no (.block (.loop jpt .no))) .no)))) _
def jpj : Sh := ⟨.pv Y2 :: dz 4 (.pv Y2 :: pI :: pI :: dz 26 []), []⟩
def jbf (N : Nat) (d : List Z2) : Z8 :=
 (iter (fun h (b, e, f, a) => bif decide (a < f) then oB (idx e a) fun c => (oB (jbx N c.1 c.2.1 c.2.2) fun j => bif !j then some false else bif decide ((0 : Int) < a) then if fits (a - 1) then oB (idx b (a - 1)) fun k => (bif decide (c.1 ≤ k.1) then some false else if fits (a + 1) then h (b, e, f, (a + 1)) else none) else none else if fits (a + 1) then h (b, e, f, (a + 1)) else none) else some (decide ((b.length : Int) ≤ 16))) N (d, d, (d.length : Int), (0 : Int)))
theorem jjU (N : Nat) : mK 101 ⟨⟨[.pv Y2], []⟩, ⟨[pB], []⟩, c1A (jbf N)⟩ :=
 mO (fC (jh0 N) ja) Tryz.func101 rfl N (.seq .no (.seq (.seq .no (.block (.loop jpj .no))) .no)) _
def jbO (N : Nat) (c : Int) (a : Z16) (b : Z9) : Option Z2 :=
 (if room ([] : Z16).length a.length 32 then if room ([] : Z9).length b.length 24 then some (c, (([] : Z16) ++ a), (([] : Z9) ++ b)) else none else none)
theorem jrI (N : Nat) : mK 203 ⟨⟨[.agg [pI, .pv Y19, .pv Y15]], []⟩, ⟨[.agg [pI, .own 1 Y20 199 true, .own 2 Y17 192 true]], []⟩, c3A (jbO N)⟩ :=
 mO ja Tryz.func203 rfl N .no _
def joW : Sh := ⟨dz 3 (.own 600003 Y3 88 true :: dz 3 (.pv Y2 :: pI :: pI :: dz 10 [])), []⟩
def jbV (N : Nat) (d : List Z2) : Option ((List Z2)) :=
 (iter (fun i (b, f, e, a) => bif decide (a < e) then oB (idx f a) fun c => (oB (jbO N c.1 c.2.1 c.2.2) fun h => if room b.length ([h] : List Z2).length 56 then if fits (a + 1) then i ((b ++ ([h] : List Z2)), f, e, (a + 1)) else none else none) else some b) N (([] : List Z2), d, (d.length : Int), (0 : Int)))
theorem joC (N : Nat) : mK 156 ⟨⟨[.pv Y2], []⟩, ⟨[.own 1 Y3 88 true], []⟩, c1A (jbV N)⟩ :=
 mO (fC (jrI N) ja) Tryz.func156 rfl N (.seq .no (.seq .no (.seq (.seq .no (.block (.loop joW .no))) .no))) _
def jI (N : Nat) (a : Int) : Z11 :=
 (bif decide ((65 : Int) ≤ a) then bif decide (a ≤ 90) then some (IntKind.u8.wrap ((IntKind.u8.wrap (a + 97)) - 65)) else (some a) else some a)
theorem jmu (N : Nat) : mK 239 ⟨⟨[.pv (.int .u8)], []⟩, ⟨[.pv (.int .u8)], []⟩, c1A (jI N)⟩ :=
 mO ja Tryz.func239 rfl N .no _
def jpB : Sh := ⟨pS :: .dead :: .dead :: .own 600003 Y6 246 true :: pI :: dz 57 [], []⟩
def jo6 : Sh := ⟨pS :: .dead :: .dead :: .own 600003 Y6 246 true :: pI :: .box 5 0 :: .own 600006 (.int .u8) 5 true :: dz 55 [], [(5, false, [pS, pI, pI, pI])]⟩
def jct (N : Nat) (q : List UInt8) : Option ((List Z10)) :=
 (oB (jaF N q) fun v => bif !v then some ([] : List Z10) else iter (fun k (j, i, h) => bif decide (h < (j.length : Int)) then oB (idx j h) fun z => (oB (jI N (z.toNat : Int)) fun x => oB (jaw N x) fun w => bif !w then if fits (h + 1) then k (j, i, (h + 1)) else none else iter (fun o (c, f, a, b, m, e, d, n) => bif decide (a < (c.length : Int)) then oB (idx c a) fun r => (oB (jI N (r.toNat : Int)) fun y => oB (jaw N y) fun t => bif t then bif decide ((b.length : Int) < 12) then oB (idx c a) fun u => (oB (jI N (u.toNat : Int)) fun p => if room b.length ([p] : List Int).length 1 then if fits (a + 1) then o (c, f, (a + 1), (b ++ ([p] : List Int)), m, e, d, n) else none else none) else (if fits (a + 1) then o (c, f, (a + 1), b, m, e, d, n) else none) else if room f.length ([((bytesOf b), e, d, a)] : List Z10).length 40 then k (c, (f ++ ([((bytesOf b), e, d, a)] : List Z10)), a) else none) else if room f.length ([((bytesOf b), e, d, a)] : List Z10).length 40 then k (c, (f ++ ([((bytesOf b), e, d, a)] : List Z10)), a) else none) N (j, i, h, ([] : List Int), ([] : List UInt8), (i.length : Int), h, (0 : Int))) else some i) N (q, ([] : List Z10), (0 : Int)))
theorem jqc (N : Nat) : mK 204 ⟨⟨[pS], []⟩, ⟨[.own 1 Y6 246 true], []⟩, c1A (jct N)⟩ :=
 mO (fC (jdK N) (fC (jmu N) (fC (jeK N) ja))) Tryz.func204 rfl N (.seq .no (.seq .no (.seq .no (.seq (.seq .no (.block (.loop jpB (.seq .no (.block (.seq .no (.seq .no (.seq .no (.seq (.block (.loop jo6 .no)) .no))))))))) .no)))) _
def jty : Sh := ⟨.dead :: .pv Y15 :: pI :: .box 3 0 :: dz 3 (.pv (.opt Y18) :: dz 8 (pI :: pI :: dz 73 [])), [(3, false, [.pv (.sl .str), .pv Y16])]⟩
def jss : Sh := ⟨.dead :: .pv Y15 :: pI :: .box 3 0 :: dz 3 (.pv (.opt Y18) :: .dead :: .ptr Y18 :: pB :: dz 5 (pI :: pI :: dz 31 (pB :: dz 4 (.pv (.sl .str) :: pI :: pI :: dz 34 [])))), [(3, false, [.pv (.sl .str), .pv Y16])]⟩
def jbH (N : Nat) (c : List Z0) (c2 : List Z4) (terms : Z9) (at0 : Int) : Option ((Option Z4)) :=
 (iter (fun go (terms2, at02, best, t16, t17, c3, c4) => bif decide (t17 < t16) then oB (idx c4 t17) fun e => (if fits ((terms2.length : Int) - at02) then bif decide (((terms2.length : Int) - at02) < (e.1.length : Int)) then if fits (t17 + 1) then go (terms2, at02, best, t16, (t17 + 1), c3, c4) else none else (bif !(Option.isNone best) then oB best fun p => (bif decide ((e.1.length : Int) ≤ (p.1.length : Int)) then if fits (t17 + 1) then go (terms2, at02, best, t16, (t17 + 1), c3, c4) else none else iter (fun go2 (terms3, at03, best2, r, fits0, t162, t172, t49, t54, t55, t56, c5, c6) => bif decide (t56 < t55) then oB (idx t54 t56) fun e2 => (if fits (at03 + t56) then oB (idx terms3 (at03 + t56)) fun e3 => (bif fits0 then bif decide (e3.1 = e2) then oB (idx terms3 at03) fun e4 => (if fits (e4.2 + t56) then if fits (t56 + 1) then go2 (terms3, at03, best2, r, (decide (e3.2 = (e4.2 + t56))), t162, t172, t49, t54, t55, (t56 + 1), c5, c6) else none else none) else (if fits (t56 + 1) then go2 (terms3, at03, best2, r, false, t162, t172, t49, t54, t55, (t56 + 1), c5, c6) else none) else if fits (t56 + 1) then go2 (terms3, at03, best2, r, false, t162, t172, t49, t54, t55, (t56 + 1), c5, c6) else none) else none) else bif fits0 then if fits (t172 + 1) then go (terms3, at03, (some r), t162, (t172 + 1), c5, c6) else none else if fits (t172 + 1) then go (terms3, at03, best2, t162, (t172 + 1), c5, c6) else none) N (terms2, at02, best, e, true, t16, t17, (decide ((e.1.length : Int) ≤ (p.1.length : Int))), e.1, (e.1.length : Int), (0 : Int), c3, c4)) else iter (fun go3 (terms4, at04, best3, r2, fits02, t163, t173, t492, t542, t552, t562, c7, c8) => bif decide (t562 < t552) then oB (idx t542 t562) fun e5 => (if fits (at04 + t562) then oB (idx terms4 (at04 + t562)) fun e6 => (bif fits02 then bif decide (e6.1 = e5) then oB (idx terms4 at04) fun e7 => (if fits (e7.2 + t562) then if fits (t562 + 1) then go3 (terms4, at04, best3, r2, (decide (e6.2 = (e7.2 + t562))), t163, t173, t492, t542, t552, (t562 + 1), c7, c8) else none else none) else (if fits (t562 + 1) then go3 (terms4, at04, best3, r2, false, t163, t173, t492, t542, t552, (t562 + 1), c7, c8) else none) else if fits (t562 + 1) then go3 (terms4, at04, best3, r2, false, t163, t173, t492, t542, t552, (t562 + 1), c7, c8) else none) else none) else bif fits02 then if fits (t173 + 1) then go (terms4, at04, (some r2), t163, (t173 + 1), c7, c8) else none else if fits (t173 + 1) then go (terms4, at04, best3, t163, (t173 + 1), c7, c8) else none) N (terms2, at02, best, e, true, t16, t17, false, e.1, (e.1.length : Int), (0 : Int), c3, c4)) else none) else some best) N (terms, at0, (none : Option Z4), (c2.length : Int), (0 : Int), c, c2))
theorem jtv (N : Nat) : mK 205 ⟨⟨[.agg [.pv (.sl .str), .pv Y16], .pv Y15, pI], []⟩, ⟨[.pv (.opt Y18)], []⟩, c4A (jbH N)⟩ :=
 mO ja Tryz.func205 rfl N (.seq .no (.seq .no (.seq (.seq .no (.block (.loop jty (.seq .no (.seq .no (.seq (.block (.seq .no (.seq .no (.seq .no (.seq .no (.seq (.seq .no (.block (.loop jss .no))) .no)))))) .no)))))) .no))) _
def jlW : Sh := ⟨.dead :: .dead :: .box 2 0 :: .dead :: .dead :: .own 600005 Y17 186 true :: .own 600006 Y17 186 true :: dz 17 (.own 600024 Y6 246 true :: pI :: pI :: dz 67 []), [(2, false, [.pv (.sl .str), .pv Y16])]⟩
def jnt : Sh := ⟨.dead :: .dead :: .box 2 0 :: .dead :: .dead :: .own 600005 Y17 186 true :: .own 600006 Y17 186 true :: dz 3 (pI :: dz 83 []), [(2, false, [.pv (.sl .str), .pv Y16])]⟩
def jbw (N : Nat) (B : List Z0) (t : List Z4) (A : List UInt8) : Option (Z7) :=
 (oB (jaj N B t) fun D => bif !D then some ([] : Z9) else oB (jaF N A) fun E => bif !E then some ([] : Z9) else oB (jct N A) fun x => iter (fun m (l, e, i, k, a, c, j) => bif decide (a < k) then oB (idx i a) fun h => (oB (jaB N h.1) fun r => oB (jao N c h.1) fun C => bif !C then oB (jao N c r) fun G => (bif !G then if room e.length ([(r, h.2.1)] : Z9).length 24 then if fits (a + 1) then m (l, (e ++ ([(r, h.2.1)] : Z9)), i, k, (a + 1), c, j) else none else none else if fits (a + 1) then m (l, e, i, k, (a + 1), c, j) else none) else if fits (a + 1) then m (l, e, i, k, (a + 1), c, j) else none) else iter (fun y (f, d, b, o, p) => bif decide (b < (d.length : Int)) then oB (jbH N o p d b) fun q => (bif Option.isNone q then oB (idx d b) fun v => (if room f.length ([v] : Z9).length 24 then if fits (b + 1) then y ((f ++ ([v] : Z9)), d, (b + 1), o, p) else none else none) else oB q fun u => oB (idx d b) fun z => if room f.length ([(u.2, z.2)] : Z9).length 24 then oB q fun w => (if fits (b + (w.1.length : Int)) then y ((f ++ ([(u.2, z.2)] : Z9)), d, (b + (w.1.length : Int)), o, p) else none) else none) else some f) N (l, e, (0 : Int), c, j)) N (([] : Z9), ([] : Z9), x, (x.length : Int), (0 : Int), B, t))
theorem jgO (N : Nat) : mK 157 ⟨⟨[.agg [.pv (.sl .str), .pv Y16], pS], []⟩, ⟨[.own 1 Y17 186 true], []⟩, c3A (jbw N)⟩ :=
 mO (fC (jdX N) (fC (jdK N) (fC (jqc N) (fC (jio N) (fC (jh5 N) (fC (jtv N) ja)))))) Tryz.func157 rfl N (.seq .no (.seq .no (.seq .no (.seq .no (.seq (.seq .no (.block (.loop jlW .no))) (.seq (.seq .no (.block (.loop jnt .no))) .no)))))) _
def k__loop_example_fossick_impl_Seg_put_1_m (N : Nat) (c : List UInt8) (d : List UInt8) (e : Z3) (a : List UInt8) (b : Z0 × Int) : Z8 :=
 (bif decide (c = a) then some (decide (d = b.1)) else some false)
theorem jmw (N : Nat) : mK 207 ⟨⟨[.agg [pS, pS, .pv Y11], .ptr .str, .ptr Y17], []⟩, ⟨[pB], []⟩, c5A (k__loop_example_fossick_impl_Seg_put_1_m N)⟩ :=
 mO ja Tryz.func207 rfl N .no _
def jnc : Sh := ⟨.pv Y4 :: .clo 207 [.ptr .str, .ptr Y17] :: dz 5 (pI :: pI :: dz 10 []), []⟩
def k_slices_IndexFunc_146_m (N : Nat) (e : List Z1) (h : Z0 × Z0 × Int) : Z11 :=
 (iter (fun i (f, c, d, a) => bif decide (a < d) then oB (idx f a) fun b => (oB (k__loop_example_fossick_impl_Seg_put_1_m N b.1 b.2.1 b.2.2 c.1 c.2) fun k => bif k then some a else if fits (a + 1) then i (f, c, d, (a + 1)) else none) else some (-1)) N (e, h, (e.length : Int), (0 : Int)))
theorem jrl (N : Nat) : mK 206 ⟨⟨[.pv Y4, .clo 207 [.ptr .str, .ptr Y17]], []⟩, ⟨[pI], []⟩, c2A (k_slices_IndexFunc_146_m N)⟩ :=
 mO (fC (jmw N) ja) Tryz.func206 rfl N (.seq .no (.seq (.seq .no (.block (.loop jnc .no))) .no)) _
def i_Seg_put_m (N : Nat) (f : List UInt8) (h : List UInt8) (i : Int) (e : Int) (o : List Z2) (a : List Z1) : Option ((List Z2) × (List Z1)) :=
 (oB (k_slices_IndexFunc_146_m N a (f, h, i)) fun d => bif decide (d < 0) then if room a.length ([(f, h, ([] : Z3))] : List Z1).length 56 then if 0 ≤ (a.length : Int) ∧ (a.length : Int) < ((a ++ ([(f, h, ([] : Z3))] : List Z1)).length : Int) then oB ((a ++ ([(f, h, ([] : Z3))] : List Z1))[(a.length : Int).toNat]?) fun c => (if fits ((c.2.2.length : Int) - 1) then bif decide (((c.2.2.length : Int) - 1) < 0) then oB ((a ++ ([(f, h, ([] : Z3))] : List Z1))[(a.length : Int).toNat]?) fun ac => (if (a.length : Int).toNat = (a.length : Int).toNat then if room c.2.2.length ([(e, ([] : List Int))] : Z3).length 32 then if (a.length : Int).toNat = (a.length : Int).toNat then oB ((a ++ ([(f, h, ([] : Z3))] : List Z1))[(a.length : Int).toNat]?) fun l => (if fits (((c.2.2.length : Int) - 1) + 1) then oB (((a ++ ([(f, h, ([] : Z3))] : List Z1)).set (a.length : Int).toNat (l.1, l.2.1, (c.2.2 ++ ([(e, ([] : List Int))] : Z3))))[(a.length : Int).toNat]?) fun n => (oB (n.2.2[(((c.2.2.length : Int) - 1) + 1).toNat]?) fun A => oB (((a ++ ([(f, h, ([] : Z3))] : List Z1)).set (a.length : Int).toNat (l.1, l.2.1, (c.2.2 ++ ([(e, ([] : List Int))] : Z3))))[(a.length : Int).toNat]?) fun ap => if (a.length : Int).toNat = (a.length : Int).toNat then oB (((a ++ ([(f, h, ([] : Z3))] : List Z1)).set (a.length : Int).toNat (l.1, l.2.1, (c.2.2 ++ ([(e, ([] : List Int))] : Z3))))[(a.length : Int).toNat]?) fun X => (if (a.length : Int).toNat = (a.length : Int).toNat then if 0 ≤ (((c.2.2.length : Int) - 1) + 1) ∧ (((c.2.2.length : Int) - 1) + 1) < (n.2.2.length : Int) then oB (n.2.2[(((c.2.2.length : Int) - 1) + 1).toNat]?) fun ao => (if (((c.2.2.length : Int) - 1) + 1).toNat = (((c.2.2.length : Int) - 1) + 1).toNat then if room A.2.length ([i] : List Int).length 8 then if 0 ≤ (((c.2.2.length : Int) - 1) + 1) ∧ (((c.2.2.length : Int) - 1) + 1) < (n.2.2.length : Int) then if (((c.2.2.length : Int) - 1) + 1).toNat = (((c.2.2.length : Int) - 1) + 1).toNat then oB (n.2.2[(((c.2.2.length : Int) - 1) + 1).toNat]?) fun K => (some (o, (((a ++ ([(f, h, ([] : Z3))] : List Z1)).set (a.length : Int).toNat (l.1, l.2.1, (c.2.2 ++ ([(e, ([] : List Int))] : Z3)))).modify ((a.length : Int).toNat) fun t => (t.1, t.2.1, (n.2.2.set (((c.2.2.length : Int) - 1) + 1).toNat (K.1, (A.2 ++ ([i] : List Int)))))))) else none else none else none else none) else none else none) else none) else none) else none else none else none) else (oB ((a ++ ([(f, h, ([] : Z3))] : List Z1))[(a.length : Int).toNat]?) fun U => if (a.length : Int).toNat = (a.length : Int).toNat then if 0 ≤ ((c.2.2.length : Int) - 1) ∧ ((c.2.2.length : Int) - 1) < (c.2.2.length : Int) then oB (c.2.2[((c.2.2.length : Int) - 1).toNat]?) fun P => (bif !decide (P.1 = e) then oB ((a ++ ([(f, h, ([] : Z3))] : List Z1))[(a.length : Int).toNat]?) fun ab => (if (a.length : Int).toNat = (a.length : Int).toNat then if room c.2.2.length ([(e, ([] : List Int))] : Z3).length 32 then if (a.length : Int).toNat = (a.length : Int).toNat then oB ((a ++ ([(f, h, ([] : Z3))] : List Z1))[(a.length : Int).toNat]?) fun j => (if fits (((c.2.2.length : Int) - 1) + 1) then oB (((a ++ ([(f, h, ([] : Z3))] : List Z1)).set (a.length : Int).toNat (j.1, j.2.1, (c.2.2 ++ ([(e, ([] : List Int))] : Z3))))[(a.length : Int).toNat]?) fun p => (oB (p.2.2[(((c.2.2.length : Int) - 1) + 1).toNat]?) fun D => oB (((a ++ ([(f, h, ([] : Z3))] : List Z1)).set (a.length : Int).toNat (j.1, j.2.1, (c.2.2 ++ ([(e, ([] : List Int))] : Z3))))[(a.length : Int).toNat]?) fun aj => if (a.length : Int).toNat = (a.length : Int).toNat then oB (((a ++ ([(f, h, ([] : Z3))] : List Z1)).set (a.length : Int).toNat (j.1, j.2.1, (c.2.2 ++ ([(e, ([] : List Int))] : Z3))))[(a.length : Int).toNat]?) fun af => (if (a.length : Int).toNat = (a.length : Int).toNat then if 0 ≤ (((c.2.2.length : Int) - 1) + 1) ∧ (((c.2.2.length : Int) - 1) + 1) < (p.2.2.length : Int) then oB (p.2.2[(((c.2.2.length : Int) - 1) + 1).toNat]?) fun T => (if (((c.2.2.length : Int) - 1) + 1).toNat = (((c.2.2.length : Int) - 1) + 1).toNat then if room D.2.length ([i] : List Int).length 8 then if 0 ≤ (((c.2.2.length : Int) - 1) + 1) ∧ (((c.2.2.length : Int) - 1) + 1) < (p.2.2.length : Int) then if (((c.2.2.length : Int) - 1) + 1).toNat = (((c.2.2.length : Int) - 1) + 1).toNat then oB (p.2.2[(((c.2.2.length : Int) - 1) + 1).toNat]?) fun Q => (some (o, (((a ++ ([(f, h, ([] : Z3))] : List Z1)).set (a.length : Int).toNat (j.1, j.2.1, (c.2.2 ++ ([(e, ([] : List Int))] : Z3)))).modify ((a.length : Int).toNat) fun z => (z.1, z.2.1, (p.2.2.set (((c.2.2.length : Int) - 1) + 1).toNat (Q.1, (D.2 ++ ([i] : List Int)))))))) else none else none else none else none) else none else none) else none) else none) else none else none else none) else if (a.length : Int).toNat = (a.length : Int).toNat then oB (c.2.2[((c.2.2.length : Int) - 1).toNat]?) fun x => (oB ((a ++ ([(f, h, ([] : Z3))] : List Z1))[(a.length : Int).toNat]?) fun S => if (a.length : Int).toNat = (a.length : Int).toNat then oB ((a ++ ([(f, h, ([] : Z3))] : List Z1))[(a.length : Int).toNat]?) fun ad => (if (a.length : Int).toNat = (a.length : Int).toNat then if 0 ≤ ((c.2.2.length : Int) - 1) ∧ ((c.2.2.length : Int) - 1) < (c.2.2.length : Int) then oB (c.2.2[((c.2.2.length : Int) - 1).toNat]?) fun ae => (if ((c.2.2.length : Int) - 1).toNat = ((c.2.2.length : Int) - 1).toNat then if room x.2.length ([i] : List Int).length 8 then if 0 ≤ ((c.2.2.length : Int) - 1) ∧ ((c.2.2.length : Int) - 1) < (c.2.2.length : Int) then if ((c.2.2.length : Int) - 1).toNat = ((c.2.2.length : Int) - 1).toNat then oB (c.2.2[((c.2.2.length : Int) - 1).toNat]?) fun O => (some (o, ((a ++ ([(f, h, ([] : Z3))] : List Z1)).modify ((a.length : Int).toNat) fun B => (B.1, B.2.1, (c.2.2.set ((c.2.2.length : Int) - 1).toNat (O.1, (x.2 ++ ([i] : List Int)))))))) else none else none else none else none) else none else none) else none) else none) else none else none) else none) else none else none else if 0 ≤ d ∧ d < (a.length : Int) then oB (a[d.toNat]?) fun b => (if fits ((b.2.2.length : Int) - 1) then bif decide (((b.2.2.length : Int) - 1) < 0) then oB (a[d.toNat]?) fun R => (if d.toNat = d.toNat then if room b.2.2.length ([(e, ([] : List Int))] : Z3).length 32 then if d.toNat = d.toNat then oB (a[d.toNat]?) fun k => (if fits (((b.2.2.length : Int) - 1) + 1) then oB ((a.set d.toNat (k.1, k.2.1, (b.2.2 ++ ([(e, ([] : List Int))] : Z3))))[d.toNat]?) fun q => (oB (q.2.2[(((b.2.2.length : Int) - 1) + 1).toNat]?) fun v => oB ((a.set d.toNat (k.1, k.2.1, (b.2.2 ++ ([(e, ([] : List Int))] : Z3))))[d.toNat]?) fun am => if d.toNat = d.toNat then oB ((a.set d.toNat (k.1, k.2.1, (b.2.2 ++ ([(e, ([] : List Int))] : Z3))))[d.toNat]?) fun an => (if d.toNat = d.toNat then if 0 ≤ (((b.2.2.length : Int) - 1) + 1) ∧ (((b.2.2.length : Int) - 1) + 1) < (q.2.2.length : Int) then oB (q.2.2[(((b.2.2.length : Int) - 1) + 1).toNat]?) fun aa => (if (((b.2.2.length : Int) - 1) + 1).toNat = (((b.2.2.length : Int) - 1) + 1).toNat then if room v.2.length ([i] : List Int).length 8 then if 0 ≤ (((b.2.2.length : Int) - 1) + 1) ∧ (((b.2.2.length : Int) - 1) + 1) < (q.2.2.length : Int) then if (((b.2.2.length : Int) - 1) + 1).toNat = (((b.2.2.length : Int) - 1) + 1).toNat then oB (q.2.2[(((b.2.2.length : Int) - 1) + 1).toNat]?) fun G => (some (o, ((a.set d.toNat (k.1, k.2.1, (b.2.2 ++ ([(e, ([] : List Int))] : Z3)))).modify d.toNat fun C => (C.1, C.2.1, (q.2.2.set (((b.2.2.length : Int) - 1) + 1).toNat (G.1, (v.2 ++ ([i] : List Int)))))))) else none else none else none else none) else none else none) else none) else none) else none else none else none) else (oB (a[d.toNat]?) fun ak => if d.toNat = d.toNat then if 0 ≤ ((b.2.2.length : Int) - 1) ∧ ((b.2.2.length : Int) - 1) < (b.2.2.length : Int) then oB (b.2.2[((b.2.2.length : Int) - 1).toNat]?) fun L => (bif !decide (L.1 = e) then oB (a[d.toNat]?) fun V => (if d.toNat = d.toNat then if room b.2.2.length ([(e, ([] : List Int))] : Z3).length 32 then if d.toNat = d.toNat then oB (a[d.toNat]?) fun m => (if fits (((b.2.2.length : Int) - 1) + 1) then oB ((a.set d.toNat (m.1, m.2.1, (b.2.2 ++ ([(e, ([] : List Int))] : Z3))))[d.toNat]?) fun r => (oB (r.2.2[(((b.2.2.length : Int) - 1) + 1).toNat]?) fun u => oB ((a.set d.toNat (m.1, m.2.1, (b.2.2 ++ ([(e, ([] : List Int))] : Z3))))[d.toNat]?) fun ah => if d.toNat = d.toNat then oB ((a.set d.toNat (m.1, m.2.1, (b.2.2 ++ ([(e, ([] : List Int))] : Z3))))[d.toNat]?) fun W => (if d.toNat = d.toNat then if 0 ≤ (((b.2.2.length : Int) - 1) + 1) ∧ (((b.2.2.length : Int) - 1) + 1) < (r.2.2.length : Int) then oB (r.2.2[(((b.2.2.length : Int) - 1) + 1).toNat]?) fun ag => (if (((b.2.2.length : Int) - 1) + 1).toNat = (((b.2.2.length : Int) - 1) + 1).toNat then if room u.2.length ([i] : List Int).length 8 then if 0 ≤ (((b.2.2.length : Int) - 1) + 1) ∧ (((b.2.2.length : Int) - 1) + 1) < (r.2.2.length : Int) then if (((b.2.2.length : Int) - 1) + 1).toNat = (((b.2.2.length : Int) - 1) + 1).toNat then oB (r.2.2[(((b.2.2.length : Int) - 1) + 1).toNat]?) fun I => (some (o, ((a.set d.toNat (m.1, m.2.1, (b.2.2 ++ ([(e, ([] : List Int))] : Z3)))).modify d.toNat fun y => (y.1, y.2.1, (r.2.2.set (((b.2.2.length : Int) - 1) + 1).toNat (I.1, (u.2 ++ ([i] : List Int)))))))) else none else none else none else none) else none else none) else none) else none) else none else none else none) else if d.toNat = d.toNat then oB (b.2.2[((b.2.2.length : Int) - 1).toNat]?) fun w => (oB (a[d.toNat]?) fun aq => if d.toNat = d.toNat then oB (a[d.toNat]?) fun al => (if d.toNat = d.toNat then if 0 ≤ ((b.2.2.length : Int) - 1) ∧ ((b.2.2.length : Int) - 1) < (b.2.2.length : Int) then oB (b.2.2[((b.2.2.length : Int) - 1).toNat]?) fun ai => (if ((b.2.2.length : Int) - 1).toNat = ((b.2.2.length : Int) - 1).toNat then if room w.2.length ([i] : List Int).length 8 then if 0 ≤ ((b.2.2.length : Int) - 1) ∧ ((b.2.2.length : Int) - 1) < (b.2.2.length : Int) then if ((b.2.2.length : Int) - 1).toNat = ((b.2.2.length : Int) - 1).toNat then oB (b.2.2[((b.2.2.length : Int) - 1).toNat]?) fun H => (some (o, (a.modify d.toNat fun E => (E.1, E.2.1, (b.2.2.set ((b.2.2.length : Int) - 1).toNat (H.1, (w.2 ++ ([i] : List Int)))))))) else none else none else none else none) else none else none) else none) else none) else none else none) else none) else none)
theorem jky (N : Nat) : mK 158 ⟨⟨[.box 900000 0, pS, .agg [pS, pI], pI], [(900000, false, [.pv Y2, .tre 850001 Y5 136])]⟩, ⟨[.tup []], [(900000, false, [.pv Y2, .tre 1 Y5 136])]⟩, c6A (i_Seg_put_m N)⟩ :=
 mO (fC (jrl N) ja) Tryz.func158 rfl N (.seq .no (.seq .no (.seq .no (.seq .no (.seq .no (.seq .no (.touch [.out 9 [(2, 79, 175, 10), (1, 88, 3, 0)]]))))))) _ (wr := [33, 34, 70, 71, 91, 92]) (rs := [900000, 850001]) (dw := [16, 33, 70])
def jl0 : Sh := ⟨.pv (.int .u64) :: .dead :: pI :: dz 22 [], []⟩
def k_math_bits_Len64_m (N : Nat) (f : Int) : Z11 :=
 (meet (fun (a : Int × Int) => match a with | (c, b) => meet (fun (a : Int × Int) => match a with | (d, e) => meet (fun (a : Int × Int) => match a with | (m, k) => oB (idx ([0, 1, 2, 2, 3, 3, 3, 3, 4, 4, 4, 4, 4, 4, 4, 4, 5, 5, 5, 5, 5, 5, 5, 5, 5, 5, 5, 5, 5, 5, 5, 5, 6, 6, 6, 6, 6, 6, 6, 6, 6, 6, 6, 6, 6, 6, 6, 6, 6, 6, 6, 6, 6, 6, 6, 6, 6, 6, 6, 6, 6, 6, 6, 6, 7, 7, 7, 7, 7, 7, 7, 7, 7, 7, 7, 7, 7, 7, 7, 7, 7, 7, 7, 7, 7, 7, 7, 7, 7, 7, 7, 7, 7, 7, 7, 7, 7, 7, 7, 7, 7, 7, 7, 7, 7, 7, 7, 7, 7, 7, 7, 7, 7, 7, 7, 7, 7, 7, 7, 7, 7, 7, 7, 7, 7, 7, 7, 7, 8, 8, 8, 8, 8, 8, 8, 8, 8, 8, 8, 8, 8, 8, 8, 8, 8, 8, 8, 8, 8, 8, 8, 8, 8, 8, 8, 8, 8, 8, 8, 8, 8, 8, 8, 8, 8, 8, 8, 8, 8, 8, 8, 8, 8, 8, 8, 8, 8, 8, 8, 8, 8, 8, 8, 8, 8, 8, 8, 8, 8, 8, 8, 8, 8, 8, 8, 8, 8, 8, 8, 8, 8, 8, 8, 8, 8, 8, 8, 8, 8, 8, 8, 8, 8, 8, 8, 8, 8, 8, 8, 8, 8, 8, 8, 8, 8, 8, 8, 8, 8, 8, 8, 8, 8, 8, 8, 8, 8, 8, 8, 8, 8, 8, 8, 8, 8, 8, 8, 8, 8, 8, 8, 8, 8, 8, 8, 8] : List UInt8) (IntKind.u8.wrap m)) fun l => if fits (k + (IntKind.i64.wrap (l.toNat : Int))) then some (k + (IntKind.i64.wrap (l.toNat : Int))) else none) fun h => bif decide ((256 : Int) ≤ d) then if 0 ≤ (8 : Int) then if fits (e + 8) then h ((d.fdiv (2 ^ (min (8 : Int).toNat (IntKind.bits .u64)))), (e + 8)) else none else none else h (d, e)) fun j => bif decide ((65536 : Int) ≤ c) then if 0 ≤ (16 : Int) then if fits (b + 16) then j ((c.fdiv (2 ^ (min (16 : Int).toNat (IntKind.bits .u64)))), (b + 16)) else none else none else j (c, b)) fun i => bif decide ((4294967296 : Int) ≤ f) then if 0 ≤ (32 : Int) then i ((f.fdiv (2 ^ (min (32 : Int).toNat (IntKind.bits .u64)))), 32) else none else i (f, 0))
theorem jrK (N : Nat) : mK 231 ⟨⟨[.pv (.int .u64)], []⟩, ⟨[pI], []⟩, c1A (k_math_bits_Len64_m N)⟩ :=
 mO ja Tryz.func231 rfl N (.seq .no (.meet jl0 .no (.meet jl0 .no (.meet jl0 .no .no)))) _
def k_math_bits_Len_m (N : Nat) (a : Int) : Z11 :=
 (oB (k_math_bits_Len64_m N a) fun b => some b)
theorem jda (N : Nat) : mK 176 ⟨⟨[.pv (.int .u64)], []⟩, ⟨[pI], []⟩, c1A (k_math_bits_Len_m N)⟩ :=
 mO (fC (jrK N) ja) Tryz.func176 rfl N .no _
def jbn (N : Nat) (a : List UInt8) : Z8 :=
 (some (!decide (a = a)))
theorem jkt (N : Nat) : mK 209 ⟨⟨[pS], []⟩, ⟨[pB], []⟩, c1A (jbn N)⟩ :=
 mO ja Tryz.func209 rfl N .no _
def jam (N : Nat) (b : List UInt8) (a : List UInt8) : Z11 :=
 (oB (jbn N b) fun d => oB (jbn N a) fun c => bif d then bif c then some 0 else (some (-1)) else bif c then some 1 else bif Op.bytesLess b a then some (-1) else bif !(Op.bytesLess b a || decide (b = a)) then some 1 else some 0)
theorem ji2 (N : Nat) : mK 161 ⟨⟨[pS, pS], []⟩, ⟨[pI], []⟩, c2A (jam N)⟩ :=
 mO (fC (jkt N) ja) Tryz.func161 rfl N .no _
def jlp : Sh := ⟨dz 3 (pI :: .dead :: .dead :: .pv Y21 :: pI :: pI :: dz 9 []), []⟩
def jbe (N : Nat) (f : List Int) : Z11 :=
 (iter (fun h (b, c, d, a) => bif decide (a < d) then oB (idx c a) fun e => (bif !decide (e = b) then some e else if fits (a + 1) then h (b, c, d, (a + 1)) else none) else some b) N ((0 : Int), f, (f.length : Int), (0 : Int)))
theorem jhC (N : Nat) : mK 122 ⟨⟨[.pv Y21], []⟩, ⟨[pI], []⟩, c1A (jbe N)⟩ :=
 mO ja Tryz.func122 rfl N (.seq .no (.seq .no (.seq (.seq .no (.block (.loop jlp .no))) .no))) _
def je (N : Nat) (e : List UInt8) (b : List UInt8) (i : Z3) (a : List UInt8) (h : List UInt8) (j : Z3) : Z11 :=
 (oB (jam N e a) fun f => oB (jam N b h) fun d => oB (jbe N ([f, d] : List Int)) fun c => some c)
theorem jaf (N : Nat) : mK 160 ⟨⟨[.agg [pS, pS, .pv Y11], .agg [pS, pS, .pv Y11]], []⟩, ⟨[pI], []⟩, c6A (je N)⟩ :=
 mO (fC (ji2 N) (fC (jhC N) ja)) Tryz.func160 rfl N .no _
def k_slices_nextPowerOfTwo_m (N : Nat) (b : Int) : Z11 :=
 (oB (k_math_bits_Len_m N (IntKind.u64.wrap b)) fun a => if 0 ≤ a then some (IntKind.u64.wrap ((1 : Int) * 2 ^ (min a.toNat (IntKind.bits .u64)))) else none)
theorem jhv (N : Nat) : mK 255 ⟨⟨[pI], []⟩, ⟨[.pv (.int .u64)], []⟩, c1A (k_slices_nextPowerOfTwo_m N)⟩ :=
 mO (fC (jda N) ja) Tryz.func255 rfl N .no _
end Go.Proofs.YtobfngpkemkojaaGreatDoor
