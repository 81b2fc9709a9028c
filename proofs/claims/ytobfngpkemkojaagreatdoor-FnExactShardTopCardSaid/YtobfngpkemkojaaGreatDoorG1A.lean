import Derived.Test.YtobfngpkemkojaaGreatDoorSJ
set_option linter.unusedVariables false
set_option linter.unusedSimpArgs false
namespace Go.Proofs.YtobfngpkemkojaaGreatDoor
open Go.RowKit
open Option renaming bind → oB
set_option maxRecDepth 1000000
abbrev Z0 : Type := List UInt8
abbrev Z1 : Type := Z0 × Z0 × (List (Int × (List Int)))
abbrev Z2 : Type := Int × (List (Z0 × Z0)) × (List (Z0 × Int))
abbrev Z3 : Type := List (Int × (List Int))
abbrev Z4 : Type := (List Z0) × Z0
abbrev Z5 : Type := List (Int × Int)
abbrev Z6 : Type := List (Z0 × Int)
abbrev Z7 : Type := Option (Bool)
abbrev Z8 : Type := List (Z0 × Int)
abbrev Z9 : Type := Z0 × Int × Int × Int
abbrev Z10 : Type := List (Int × Int)
abbrev Z11 : Type := Option (Int)
abbrev Z12 : Type := List (Int × (List Int))
abbrev Z13 : Type := List (Z0 × Z0)
abbrev Z14 : Type := ((List Z0) × (List Z4)) × (List Z2) × (List Z1)
abbrev Z15 : Type := Int × Z0 × (List Z0) × Int × Int × (List DQ)
abbrev Z16 : Type := List (Z0 × Z0)
abbrev Z17 : Type := Int × Z0 × (List Z0) × Int × Int × (List DQ) × Int × Z0 × (List Z0) × Int × Int × (List DQ)
abbrev Z18 : Type := List (List Int)
abbrev Z19 : Type := Z0 × Z0 × (List Int) × Int × Int × Int
abbrev Z20 : Type := Int × Int × Z0 × (List Z0) × Int × Int × (List DQ) × Bool × Int × Int × Int × Int × Bool × Int × Int
abbrev Z22 : Type := Int × Z0 × (List Z0) × Int × Int × (List DQ) × Int
abbrev mK := ModelOk Tryz.prog
theorem mO {l : List (Nat × Model)} (hl : jR Tryz.prog l) {f : FuncId} {fn : Func} {c : Code} (hf : Tryz.prog.funcs[f]? = some fn) (hbody : fn.body = some c) (N : Nat) (h : Hint) (m : Model) (wr rs dw : List Nat := [])
  (hname : (fn.name == "runtime.NumGoroutine") = false := by kernel_rfl) (hres : m.arg.names.all (jbC l wr rs dw).res = true := by kernel_rfl) (hlen : Nat.ble m.arg.vals.length fn.ntmps = true := by kernel_rfl)
  (hrun : ∀ a, m.run a = runF N (jbC l wr rs dw) okDraw fn c h m.arg m.ret a := by intro a; kernel_rfl) : ModelOk Tryz.prog f m := modelOk_of (E := jbC l wr rs dw) (jtQ hl wr rs dw) hf hname hbody N h m hres hlen hrun
theorem fC {k : Nat} {m : Model} {l : List (Nat × Model)} (h : ModelOk Tryz.prog k m) (hl : jR Tryz.prog l) : jR Tryz.prog ((k, m) :: l) := jsH h hl
abbrev pI : VS := .pv (.int .i64)
abbrev pS : VS := .pv .str
abbrev pB : VS := .pv .bool
abbrev tI : Tp := .int .i64
abbrev c1A {α ρ : Type} (f : α → ρ) (a : α) : ρ := f a
abbrev c2A {α0 α1 ρ : Type} (f : α0 → α1 → ρ) (a : α0 × α1) : ρ := f a.1 a.2
abbrev c3A {α0 α1 α2 ρ : Type} (f : α0 → α1 → α2 → ρ) (a : α0 × α1 × α2) : ρ := f a.1 a.2.1 a.2.2
abbrev c4A {α0 α1 α2 α3 ρ : Type} (f : α0 → α1 → α2 → α3 → ρ) (a : α0 × α1 × α2 × α3) : ρ := f a.1 a.2.1 a.2.2.1 a.2.2.2
abbrev c5A {α0 α1 α2 α3 α4 ρ : Type} (f : α0 → α1 → α2 → α3 → α4 → ρ) (a : α0 × α1 × α2 × α3 × α4) : ρ := f a.1 a.2.1 a.2.2.1 a.2.2.2.1 a.2.2.2.2
abbrev c6A {α0 α1 α2 α3 α4 α5 ρ : Type} (f : α0 → α1 → α2 → α3 → α4 → α5 → ρ) (a : α0 × α1 × α2 × α3 × α4 × α5) : ρ := f a.1 a.2.1 a.2.2.1 a.2.2.2.1 a.2.2.2.2.1 a.2.2.2.2.2
abbrev c7A {α0 α1 α2 α3 α4 α5 α6 ρ : Type} (f : α0 → α1 → α2 → α3 → α4 → α5 → α6 → ρ) (a : α0 × α1 × α2 × α3 × α4 × α5 × α6) : ρ := f a.1 a.2.1 a.2.2.1 a.2.2.2.1 a.2.2.2.2.1 a.2.2.2.2.2.1 a.2.2.2.2.2.2
abbrev c9A {α0 α1 α2 α3 α4 α5 α6 α7 α8 ρ : Type} (f : α0 → α1 → α2 → α3 → α4 → α5 → α6 → α7 → α8 → ρ) (a : α0 × α1 × α2 × α3 × α4 × α5 × α6 × α7 × α8) : ρ := f a.1 a.2.1 a.2.2.1 a.2.2.2.1 a.2.2.2.2.1 a.2.2.2.2.2.1 a.2.2.2.2.2.2.1 a.2.2.2.2.2.2.2.1 a.2.2.2.2.2.2.2.2
abbrev c10A {α0 α1 α2 α3 α4 α5 α6 α7 α8 α9 ρ : Type} (f : α0 → α1 → α2 → α3 → α4 → α5 → α6 → α7 → α8 → α9 → ρ) (a : α0 × α1 × α2 × α3 × α4 × α5 × α6 × α7 × α8 × α9) : ρ := f a.1 a.2.1 a.2.2.1 a.2.2.2.1 a.2.2.2.2.1 a.2.2.2.2.2.1 a.2.2.2.2.2.2.1 a.2.2.2.2.2.2.2.1 a.2.2.2.2.2.2.2.2.1 a.2.2.2.2.2.2.2.2.2
abbrev c11A {α0 α1 α2 α3 α4 α5 α6 α7 α8 α9 α10 ρ : Type} (f : α0 → α1 → α2 → α3 → α4 → α5 → α6 → α7 → α8 → α9 → α10 → ρ) (a : α0 × α1 × α2 × α3 × α4 × α5 × α6 × α7 × α8 × α9 × α10) : ρ := f a.1 a.2.1 a.2.2.1 a.2.2.2.1 a.2.2.2.2.1 a.2.2.2.2.2.1 a.2.2.2.2.2.2.1 a.2.2.2.2.2.2.2.1 a.2.2.2.2.2.2.2.2.1 a.2.2.2.2.2.2.2.2.2.1 a.2.2.2.2.2.2.2.2.2.2
abbrev c12A {α0 α1 α2 α3 α4 α5 α6 α7 α8 α9 α10 α11 ρ : Type} (f : α0 → α1 → α2 → α3 → α4 → α5 → α6 → α7 → α8 → α9 → α10 → α11 → ρ) (a : α0 × α1 × α2 × α3 × α4 × α5 × α6 × α7 × α8 × α9 × α10 × α11) : ρ := f a.1 a.2.1 a.2.2.1 a.2.2.2.1 a.2.2.2.2.1 a.2.2.2.2.2.1 a.2.2.2.2.2.2.1 a.2.2.2.2.2.2.2.1 a.2.2.2.2.2.2.2.2.1 a.2.2.2.2.2.2.2.2.2.1 a.2.2.2.2.2.2.2.2.2.2.1 a.2.2.2.2.2.2.2.2.2.2.2
abbrev c13A {α0 α1 α2 α3 α4 α5 α6 α7 α8 α9 α10 α11 α12 ρ : Type} (f : α0 → α1 → α2 → α3 → α4 → α5 → α6 → α7 → α8 → α9 → α10 → α11 → α12 → ρ) (a : α0 × α1 × α2 × α3 × α4 × α5 × α6 × α7 × α8 × α9 × α10 × α11 × α12) : ρ := f a.1 a.2.1 a.2.2.1 a.2.2.2.1 a.2.2.2.2.1 a.2.2.2.2.2.1 a.2.2.2.2.2.2.1 a.2.2.2.2.2.2.2.1 a.2.2.2.2.2.2.2.2.1 a.2.2.2.2.2.2.2.2.2.1 a.2.2.2.2.2.2.2.2.2.2.1 a.2.2.2.2.2.2.2.2.2.2.2.1 a.2.2.2.2.2.2.2.2.2.2.2.2
def dz : Nat → List VS → List VS
 | 0, l => l
 | n + 1, l => .dead :: dz n l
abbrev Y20 : Tp := .sl tI
abbrev Y19 : Tp := .pair .str .str
abbrev Y18 : Tp := .sl (.pair .str .str)
abbrev Y17 : Tp := .pair (.sl .str) .str
abbrev Y16 : Tp := .pair .str tI
abbrev Y15 : Tp := .sl (.pair (.sl .str) .str)
abbrev Y14 : Tp := .sl (.pair .str tI)
abbrev Y13 : Tp := .pair tI tI
abbrev Y12 : Tp := .pair tI (.sl tI)
abbrev Y11 : Tp := .sl (.pair tI (.sl tI))
abbrev Y6 : Tp := .pair .str (.pair tI (.pair tI tI))
abbrev Y5 : Tp := .pair .str (.pair .str (.sl (.pair tI (.sl tI))))
abbrev Y4 : Tp := .sl (.pair .str (.pair .str (.sl (.pair tI (.sl tI)))))
abbrev Y3 : Tp := .pair tI (.pair (.sl (.pair .str .str)) (.sl (.pair .str tI)))
abbrev Y2 : Tp := .sl (.pair tI (.pair (.sl (.pair .str .str)) (.sl (.pair .str tI))))
abbrev Y1 : Tp := .pair (.sl (.pair tI (.pair (.sl (.pair .str .str)) (.sl (.pair .str tI))))) (.sl (.pair .str (.pair .str (.sl (.pair tI (.sl tI))))))
abbrev Y0 : Tp := .pair (.pair (.sl .str) (.sl (.pair (.sl .str) .str))) (.pair (.sl (.pair tI (.pair (.sl (.pair .str .str)) (.sl (.pair .str tI))))) (.sl (.pair .str (.pair .str (.sl (.pair tI (.sl tI)))))))
def jso : Sh := ⟨.pv (.sl .str) :: pI :: dz 3 (pI :: dz 22 []), []⟩
def jbK (N : Nat) (a : List Z0) (e : Int) : Z11 :=
 (if fits (e - (a.length : Int)) then bif decide ((e - (a.length : Int)) < 0) then some (-1) else (iter (fun i (d, b, c) => bif decide (c < (d.length : Int)) then oB (idx d c) fun f => (if fits (b - (f.length : Int)) then bif decide ((b - (f.length : Int)) < 0) then some (-1) else (if fits (c + 1) then i (d, (b - (f.length : Int)), (c + 1)) else none) else none) else some b) N (a, (e - (a.length : Int)), (0 : Int))) else none)
theorem jjn (N : Nat) : mK 43 ⟨⟨[.pv (.sl .str), pI], []⟩, ⟨[pI], []⟩, c2A (jbK N)⟩ :=
 mO ja Tryz.func43 rfl N (.seq .no (.seq .no (.seq .no (.seq (.seq .no (.block (.loop jso .no))) .no)))) _
def jbp (N : Nat) (c : List Z0) (b : List UInt8) (d : Int) : Z11 :=
 (oB (jbK N c d) fun a => bif decide (a < 0) then some (-1) else if fits (a - (b.length : Int)) then bif decide ((a - (b.length : Int)) < 0) then some (-1) else (some (a - (b.length : Int))) else none)
theorem jsV (N : Nat) : mK 82 ⟨⟨[.agg [.pv (.sl .str), pS], pI], []⟩, ⟨[pI], []⟩, c3A (jbp N)⟩ :=
 mO (fC (jjn N) ja) Tryz.func82 rfl N .no _
def jki : Sh := ⟨.pv Y15 :: pI :: dz 3 (pI :: dz 21 []), []⟩
def jc6 (N : Nat) (a : List Z4) (d : Int) : Z11 :=
 (if fits (d - (a.length : Int)) then bif decide ((d - (a.length : Int)) < 0) then some (-1) else (iter (fun j (c, f, b) => bif decide (b < (c.length : Int)) then oB (idx c b) fun h => (oB (jbp N h.1 h.2 f) fun e => bif decide (e < 0) then some (-1) else if fits (b + 1) then j (c, e, (b + 1)) else none) else some f) N (a, (d - (a.length : Int)), (0 : Int))) else none)
theorem jkX (N : Nat) : mK 44 ⟨⟨[.pv Y15, pI], []⟩, ⟨[pI], []⟩, c2A (jc6 N)⟩ :=
 mO (fC (jsV N) ja) Tryz.func44 rfl N (.seq .no (.seq .no (.seq .no (.seq (.seq .no (.block (.loop jki .no))) .no)))) _
def l_szConf_m (N : Nat) (c : List Z0) (e : List Z4) (d : Int) : Z11 :=
 (oB (jbK N c d) fun b => bif decide (b < 0) then some (-1) else oB (jc6 N e b) fun a => bif decide (a < 0) then some (-1) else some a)
theorem jm8 (N : Nat) : mK 9 ⟨⟨[.agg [.pv (.sl .str), .pv Y15], pI], []⟩, ⟨[pI], []⟩, c3A (l_szConf_m N)⟩ :=
 mO (fC (jjn N) (fC (jkX N) ja)) Tryz.func9 rfl N .no _
def jaN (N : Nat) (a : List UInt8) (c : List UInt8) (b : Int) : Z11 :=
 (if fits (b - (a.length : Int)) then bif decide ((b - (a.length : Int)) < 0) then some (-1) else (if fits ((b - (a.length : Int)) - (c.length : Int)) then bif decide (((b - (a.length : Int)) - (c.length : Int)) < 0) then some (-1) else (some ((b - (a.length : Int)) - (c.length : Int))) else none) else none)
theorem jpy (N : Nat) : mK 178 ⟨⟨[.agg [pS, pS], pI], []⟩, ⟨[pI], []⟩, c3A (jaN N)⟩ :=
 mO ja Tryz.func178 rfl N .no _
def jms : Sh := ⟨.pv Y18 :: pI :: dz 3 (pI :: dz 21 []), []⟩
def jdb (N : Nat) (a : Z16) (d : Int) : Z11 :=
 (if fits (d - (a.length : Int)) then bif decide ((d - (a.length : Int)) < 0) then some (-1) else (iter (fun j (c, f, b) => bif decide (b < (c.length : Int)) then oB (idx c b) fun h => (oB (jaN N h.1 h.2 f) fun e => bif decide (e < 0) then some (-1) else if fits (b + 1) then j (c, e, (b + 1)) else none) else some f) N (a, (d - (a.length : Int)), (0 : Int))) else none)
theorem jns (N : Nat) : mK 124 ⟨⟨[.pv Y18, pI], []⟩, ⟨[pI], []⟩, c2A (jdb N)⟩ :=
 mO (fC (jpy N) ja) Tryz.func124 rfl N (.seq .no (.seq .no (.seq .no (.seq (.seq .no (.block (.loop jms .no))) .no)))) _
def jaT (N : Nat) (a : List UInt8) (c : Int) (b : Int) : Z11 :=
 (if fits (b - (a.length : Int)) then bif decide ((b - (a.length : Int)) < 0) then some (-1) else (some (b - (a.length : Int))) else none)
theorem joe (N : Nat) : mK 179 ⟨⟨[.agg [pS, pI], pI], []⟩, ⟨[pI], []⟩, c3A (jaT N)⟩ :=
 mO ja Tryz.func179 rfl N .no _
def jkA : Sh := ⟨.pv Y14 :: pI :: dz 3 (pI :: dz 21 []), []⟩
def jdV (N : Nat) (a : Z8) (d : Int) : Z11 :=
 (if fits (d - (a.length : Int)) then bif decide ((d - (a.length : Int)) < 0) then some (-1) else (iter (fun j (c, f, b) => bif decide (b < (c.length : Int)) then oB (idx c b) fun h => (oB (jaT N h.1 h.2 f) fun e => bif decide (e < 0) then some (-1) else if fits (b + 1) then j (c, e, (b + 1)) else none) else some f) N (a, (d - (a.length : Int)), (0 : Int))) else none)
theorem jn5 (N : Nat) : mK 125 ⟨⟨[.pv Y14, pI], []⟩, ⟨[pI], []⟩, c2A (jdV N)⟩ :=
 mO (fC (joe N) ja) Tryz.func125 rfl N (.seq .no (.seq .no (.seq .no (.seq (.seq .no (.block (.loop jkA .no))) .no)))) _
def jbq (N : Nat) (f : Int) (e : Z16) (d : Z8) (c : Int) : Z11 :=
 (oB (jdb N e c) fun b => bif decide (b < 0) then some (-1) else oB (jdV N d b) fun a => bif decide (a < 0) then some (-1) else some a)
theorem jnC (N : Nat) : mK 83 ⟨⟨[.agg [pI, .pv Y18, .pv Y14], pI], []⟩, ⟨[pI], []⟩, c4A (jbq N)⟩ :=
 mO (fC (jns N) (fC (jn5 N) ja)) Tryz.func83 rfl N .no _
def jqA : Sh := ⟨.pv Y2 :: pI :: dz 3 (pI :: dz 21 []), []⟩
def jdo (N : Nat) (a : List Z2) (d : Int) : Z11 :=
 (if fits (d - (a.length : Int)) then bif decide ((d - (a.length : Int)) < 0) then some (-1) else (iter (fun j (c, h, b) => bif decide (b < (c.length : Int)) then oB (idx c b) fun e => (oB (jbq N e.1 e.2.1 e.2.2 h) fun f => bif decide (f < 0) then some (-1) else if fits (b + 1) then j (c, f, (b + 1)) else none) else some h) N (a, (d - (a.length : Int)), (0 : Int))) else none)
theorem jsn (N : Nat) : mK 45 ⟨⟨[.pv Y2, pI], []⟩, ⟨[pI], []⟩, c2A (jdo N)⟩ :=
 mO (fC (jnC N) ja) Tryz.func45 rfl N (.seq .no (.seq .no (.seq .no (.seq (.seq .no (.block (.loop jqA .no))) .no)))) _
def jeb (N : Nat) (a : List Int) (b : Int) : Z11 :=
 (if fits (b - (a.length : Int)) then bif decide ((b - (a.length : Int)) < 0) then some (-1) else (some (b - (a.length : Int))) else none)
theorem jm4 (N : Nat) : mK 232 ⟨⟨[.pv Y20, pI], []⟩, ⟨[pI], []⟩, c2A (jeb N)⟩ :=
 mO ja Tryz.func232 rfl N .no _
def jbb (N : Nat) (d : Int) (c : List Int) (b : Int) : Z11 :=
 (oB (jeb N c b) fun a => bif decide (a < 0) then some (-1) else some a)
theorem jsZ (N : Nat) : mK 180 ⟨⟨[.agg [pI, .pv Y20], pI], []⟩, ⟨[pI], []⟩, c3A (jbb N)⟩ :=
 mO (fC (jm4 N) ja) Tryz.func180 rfl N .no _
def joP : Sh := ⟨.pv Y11 :: pI :: dz 3 (pI :: dz 21 []), []⟩
def jdz (N : Nat) (a : Z3) (d : Int) : Z11 :=
 (if fits (d - (a.length : Int)) then bif decide ((d - (a.length : Int)) < 0) then some (-1) else (iter (fun j (c, f, b) => bif decide (b < (c.length : Int)) then oB (idx c b) fun h => (oB (jbb N h.1 h.2 f) fun e => bif decide (e < 0) then some (-1) else if fits (b + 1) then j (c, e, (b + 1)) else none) else some f) N (a, (d - (a.length : Int)), (0 : Int))) else none)
theorem jnZ (N : Nat) : mK 126 ⟨⟨[.pv Y11, pI], []⟩, ⟨[pI], []⟩, c2A (jdz N)⟩ :=
 mO (fC (jsZ N) ja) Tryz.func126 rfl N (.seq .no (.seq .no (.seq .no (.seq (.seq .no (.block (.loop joP .no))) .no)))) _
def jbj (N : Nat) (a : List UInt8) (c : List UInt8) (e : Z3) (b : Int) : Z11 :=
 (if fits (b - (a.length : Int)) then bif decide ((b - (a.length : Int)) < 0) then some (-1) else (if fits ((b - (a.length : Int)) - (c.length : Int)) then bif decide (((b - (a.length : Int)) - (c.length : Int)) < 0) then some (-1) else (oB (jdz N e ((b - (a.length : Int)) - (c.length : Int))) fun d => bif decide (d < 0) then some (-1) else some d) else none) else none)
theorem joB (N : Nat) : mK 84 ⟨⟨[.agg [pS, pS, .pv Y11], pI], []⟩, ⟨[pI], []⟩, c4A (jbj N)⟩ :=
 mO (fC (jnZ N) ja) Tryz.func84 rfl N .no _
def jtA : Sh := ⟨.pv Y4 :: pI :: dz 3 (pI :: dz 21 []), []⟩
def jej (N : Nat) (a : List Z1) (d : Int) : Z11 :=
 (if fits (d - (a.length : Int)) then bif decide ((d - (a.length : Int)) < 0) then some (-1) else (iter (fun j (c, h, b) => bif decide (b < (c.length : Int)) then oB (idx c b) fun e => (oB (jbj N e.1 e.2.1 e.2.2 h) fun f => bif decide (f < 0) then some (-1) else if fits (b + 1) then j (c, f, (b + 1)) else none) else some h) N (a, (d - (a.length : Int)), (0 : Int))) else none)
theorem jrU (N : Nat) : mK 46 ⟨⟨[.pv Y4, pI], []⟩, ⟨[pI], []⟩, c2A (jej N)⟩ :=
 mO (fC (joB N) ja) Tryz.func46 rfl N (.seq .no (.seq .no (.seq .no (.seq (.seq .no (.block (.loop jtA .no))) .no)))) _
def l_szSeg_m (N : Nat) (c : List Z2) (e : List Z1) (d : Int) : Z11 :=
 (oB (jdo N c d) fun b => bif decide (b < 0) then some (-1) else oB (jej N e b) fun a => bif decide (a < 0) then some (-1) else some a)
theorem jpO (N : Nat) : mK 10 ⟨⟨[.agg [.pv Y2, .pv Y4], pI], []⟩, ⟨[pI], []⟩, c3A (l_szSeg_m N)⟩ :=
 mO (fC (jsn N) (fC (jrU N) ja)) Tryz.func10 rfl N .no _
def jzT : Sh := ⟨[.agg [pI, pS, .pv (.sl .str), pI, pI, .pv (.sl .q)], pI], []⟩
def jAp : Sh := ⟨[pI], []⟩
def jDq : Sh := ⟨[.pv (.sl .q), pI], []⟩
def jCU : Sh := ⟨[pI], []⟩
def jBx : Sh := ⟨.pv (.sl .q) :: pI :: dz 3 (pI :: dz 21 []), []⟩
def jzK (N : Nat) (i : Z22 → Option Int) (b : List DQ) (e : Int) : Z11 :=
 (if fits (e - (b.length : Int)) then bif decide ((e - (b.length : Int)) < 0) then some (-1) else (iter (fun k (d, h, c) => bif decide (c < (d.length : Int)) then oB (idx d c) fun a => (oB (i (a.kind, a.field, a.words, a.lo, a.hi, a.kids, h)) fun f => bif decide (f < 0) then some (-1) else if fits (c + 1) then k (d, f, (c + 1)) else none) else some h) N (b, (e - (b.length : Int)), (0 : Int))) else none)
def jAt (N : Nat) (F : Z22 → Option Int) : Model := ⟨jDq, jCU, fun a => jzK N F a.1 a.2⟩
theorem jCA (N : Nat) (F : Z22 → Option Int) (hF : mK 11 ⟨jzT, jAp, F⟩) : mK 47 (jAt N F) :=
 mO (fC hF ja) Tryz.func47 rfl N (.seq .no (.seq .no (.seq .no (.seq (.seq .no (.block (.loop jBx .no))) .no)))) (jAt N F)
def l_szQuery_m (N : Nat) : (D : Nat) → Int → Z0 → (List Z0) → Int → Int → (List DQ) → Int → Z11
 | 0, _, _, _, _, _, _, _ => none
 | D + 1, a, a2, a3, a4, a5, a6, left =>
 if fits (left - (a2.length : Int)) then bif decide ((left - (a2.length : Int)) < 0) then
 some (-1)
 else
 (oB (jbK N a3 (left - (a2.length : Int))) fun r =>
 bif decide (r < 0) then
 some (-1)
 else
 oB (jzK N (fun a => l_szQuery_m N D a.1 a.2.1 a.2.2.1 a.2.2.2.1 a.2.2.2.2.1 a.2.2.2.2.2.1 a.2.2.2.2.2.2) a6 r) fun r2 =>
 bif decide (r2 < 0) then
 some (-1)
 else
 some r2) else none
def jya (N D : Nat) : Model := ⟨jzT, jAp, c7A (l_szQuery_m N D)⟩
theorem jBb (N D : Nat) (ih : mK 11 (jya N D)) : mK 11 (jya N (D + 1)) :=
 mO (fC ih (fC (jjn N) (fC (jCA N _ ih) ja))) Tryz.func11 rfl N .no (jya N (D + 1))
theorem jzH (N : Nat) : ∀ D, mK 11 (jya N D)
 | 0 => modelOk_none ⟨_, Tryz.func11, by decide, by kernel_rfl⟩ _ (fun a => rfl)
 | D + 1 => jBb N D (jzH N D)
def jqD : Sh := ⟨.pv (.sl .str) :: .dead :: .dead :: .mtk 600003 .str 9 true :: pI :: dz 17 [], []⟩
def jci (N : Nat) (b : List Z0) : Option ((List Z0)) :=
 (if (b.length : Int) = (b.length : Int) ∧ 0 ≤ (b.length : Int) ∧ (b.length : Int) * 16 ≤ 140737488355328 ∧ (b.length : Int) ≤ 140737488355328 then iter (fun f (d, c, a) => bif decide (a < (d.length : Int)) then oB (idx d a) fun h => (if 0 ≤ a ∧ a < (c.length : Int) then oB (c[a.toNat]?) fun i => (if fits (a + 1) then f (d, (c.set a.toNat h), (a + 1)) else none) else none) else some c) N (b, (List.replicate (b.length : Int).toNat ([] : List UInt8)), (0 : Int)) else none)
theorem jiJ (N : Nat) : mK 52 ⟨⟨[.pv (.sl .str)], []⟩, ⟨[.own 1 .str 9 true], []⟩, c1A (jci N)⟩ :=
 mO ja Tryz.func52 rfl N (.seq .no (.seq .no (.seq (.seq .no (.block (.loop jqD .no))) .no))) _ (wr := [7])
def ja0 (N : Nat) (a : List Z0) (c : List UInt8) : Option Z4 :=
 (oB (jci N a) fun b => some (b, c))
theorem jr7 (N : Nat) : mK 97 ⟨⟨[.agg [.pv (.sl .str), pS]], []⟩, ⟨[.agg [.own 1 .str 9 true, pS]], []⟩, c2A (ja0 N)⟩ :=
 mO (fC (jiJ N) ja) Tryz.func97 rfl N .no _ (dw := [6])
def jos : Sh := ⟨.pv Y15 :: .dead :: .dead :: .tre 600003 Y17 144 :: pI :: dz 18 [], []⟩
def jeh (N : Nat) (b : List Z4) : Option ((List Z4)) :=
 (if (b.length : Int) = (b.length : Int) ∧ 0 ≤ (b.length : Int) ∧ (b.length : Int) * 40 ≤ 140737488355328 ∧ (b.length : Int) ≤ 140737488355328 then iter (fun i (d, c, a) => bif decide (a < (d.length : Int)) then oB (idx d a) fun e => (oB (ja0 N e.1 e.2) fun h => if 0 ≤ a ∧ a < (c.length : Int) then oB (c[a.toNat]?) fun j => (if fits (a + 1) then i (d, (c.set a.toNat h), (a + 1)) else none) else none) else some c) N (b, (List.replicate (b.length : Int).toNat (([] : List Z0), ([] : List UInt8))), (0 : Int)) else none)
theorem jqR (N : Nat) : mK 53 ⟨⟨[.pv Y15], []⟩, ⟨[.own 1 Y17 144 true], []⟩, c1A (jeh N)⟩ :=
 mO (fC (jr7 N) ja) Tryz.func53 rfl N (.seq .no (.seq .no (.seq (.seq .no (.block (.loop jos .no))) .no))) _ (wr := [7]) (dw := [20])
def jad (N : Nat) (a : List Z0) (d : List Z4) : Option ((List Z0) × (List Z4)) :=
 (oB (jci N a) fun c => oB (jeh N d) fun b => some (c, b))
theorem jtJ (N : Nat) : mK 13 ⟨⟨[.agg [.pv (.sl .str), .pv Y15]], []⟩, ⟨[.agg [.own 1 .str 9 true, .own 2 Y17 144 true]], []⟩, c2A (jad N)⟩ :=
 mO (fC (jiJ N) (fC (jqR N) ja)) Tryz.func13 rfl N .no _ (dw := [6, 10])
def jaW (N : Nat) (a : List UInt8) (b : List UInt8) : Option (Z0 × Z0) :=
 (some (a, b))
theorem jlT (N : Nat) : mK 196 ⟨⟨[.agg [pS, pS]], []⟩, ⟨[.agg [pS, pS]], []⟩, c2A (jaW N)⟩ :=
 mO ja Tryz.func196 rfl N .no _
def jp2 : Sh := ⟨.pv Y18 :: .dead :: .dead :: .mtk 600003 Y19 199 true :: pI :: dz 18 [], []⟩
def jdS (N : Nat) (b : Z16) : Option (Z13) :=
 (if (b.length : Int) = (b.length : Int) ∧ 0 ≤ (b.length : Int) ∧ (b.length : Int) * 32 ≤ 140737488355328 ∧ (b.length : Int) ≤ 140737488355328 then iter (fun i (d, c, a) => bif decide (a < (d.length : Int)) then oB (idx d a) fun e => (oB (jaW N e.1 e.2) fun h => if 0 ≤ a ∧ a < (c.length : Int) then oB (c[a.toNat]?) fun j => (if fits (a + 1) then i (d, (c.set a.toNat h), (a + 1)) else none) else none) else some c) N (b, (List.replicate (b.length : Int).toNat (([] : List UInt8), ([] : List UInt8))), (0 : Int)) else none)
theorem jmr (N : Nat) : mK 148 ⟨⟨[.pv Y18], []⟩, ⟨[.own 1 Y19 199 true], []⟩, c1A (jdS N)⟩ :=
 mO (fC (jlT N) ja) Tryz.func148 rfl N (.seq .no (.seq .no (.seq (.seq .no (.block (.loop jp2 .no))) .no))) _ (wr := [7]) (dw := [20])
def jaX (N : Nat) (a : List UInt8) (b : Int) : Option (Z0 × Int) :=
 (some (a, b))
theorem jnE (N : Nat) : mK 197 ⟨⟨[.agg [pS, pI]], []⟩, ⟨[.agg [pS, pI]], []⟩, c2A (jaX N)⟩ :=
 mO ja Tryz.func197 rfl N .no _
def jpn : Sh := ⟨.pv Y14 :: .dead :: .dead :: .mtk 600003 Y16 192 true :: pI :: dz 18 [], []⟩
def jd3 (N : Nat) (b : Z8) : Option (Z6) :=
 (if (b.length : Int) = (b.length : Int) ∧ 0 ≤ (b.length : Int) ∧ (b.length : Int) * 24 ≤ 140737488355328 ∧ (b.length : Int) ≤ 140737488355328 then iter (fun i (d, c, a) => bif decide (a < (d.length : Int)) then oB (idx d a) fun e => (oB (jaX N e.1 e.2) fun h => if 0 ≤ a ∧ a < (c.length : Int) then oB (c[a.toNat]?) fun j => (if fits (a + 1) then i (d, (c.set a.toNat h), (a + 1)) else none) else none) else some c) N (b, (List.replicate (b.length : Int).toNat (([] : List UInt8), 0)), (0 : Int)) else none)
theorem jqJ (N : Nat) : mK 149 ⟨⟨[.pv Y14], []⟩, ⟨[.own 1 Y16 192 true], []⟩, c1A (jd3 N)⟩ :=
 mO (fC (jnE N) ja) Tryz.func149 rfl N (.seq .no (.seq .no (.seq (.seq .no (.block (.loop jpn .no))) .no))) _ (wr := [7]) (dw := [20])
def jbv (N : Nat) (a : Int) (e : Z16) (d : Z8) : Option Z2 :=
 (oB (jdS N e) fun c => oB (jd3 N d) fun b => some (a, c, b))
theorem jsM (N : Nat) : mK 98 ⟨⟨[.agg [pI, .pv Y18, .pv Y14]], []⟩, ⟨[.agg [pI, .own 1 Y19 199 true, .own 2 Y16 192 true]], []⟩, c3A (jbv N)⟩ :=
 mO (fC (jmr N) (fC (jqJ N) ja)) Tryz.func98 rfl N .no _ (dw := [9, 13])
def jmB : Sh := ⟨.pv Y2 :: .dead :: .dead :: .tre 600003 Y3 88 :: pI :: dz 18 [], []⟩
def jdO (N : Nat) (b : List Z2) : Option ((List Z2)) :=
 (if (b.length : Int) = (b.length : Int) ∧ 0 ≤ (b.length : Int) ∧ (b.length : Int) * 56 ≤ 140737488355328 ∧ (b.length : Int) ≤ 140737488355328 then iter (fun i (d, c, a) => bif decide (a < (d.length : Int)) then oB (idx d a) fun e => (oB (jbv N e.1 e.2.1 e.2.2) fun h => if 0 ≤ a ∧ a < (c.length : Int) then oB (c[a.toNat]?) fun j => (if fits (a + 1) then i (d, (c.set a.toNat h), (a + 1)) else none) else none) else some c) N (b, (List.replicate (b.length : Int).toNat (0, ([] : Z16), ([] : Z8))), (0 : Int)) else none)
theorem jsQ (N : Nat) : mK 54 ⟨⟨[.pv Y2], []⟩, ⟨[.own 1 Y3 88 true], []⟩, c1A (jdO N)⟩ :=
 mO (fC (jsM N) ja) Tryz.func54 rfl N (.seq .no (.seq .no (.seq (.seq .no (.block (.loop jmB .no))) .no))) _ (wr := [7]) (dw := [20])
def jng : Sh := ⟨.pv Y20 :: .dead :: .dead :: .mtk 600003 tI 3 true :: pI :: dz 17 [], []⟩
def jek (N : Nat) (b : List Int) : Option ((List Int)) :=
 (if (b.length : Int) = (b.length : Int) ∧ 0 ≤ (b.length : Int) ∧ (b.length : Int) * 8 ≤ 140737488355328 ∧ (b.length : Int) ≤ 140737488355328 then iter (fun f (d, c, a) => bif decide (a < (d.length : Int)) then oB (idx d a) fun h => (if 0 ≤ a ∧ a < (c.length : Int) then oB (c[a.toNat]?) fun i => (if fits (a + 1) then f (d, (c.set a.toNat h), (a + 1)) else none) else none) else some c) N (b, (List.replicate (b.length : Int).toNat 0), (0 : Int)) else none)
theorem jqI (N : Nat) : mK 237 ⟨⟨[.pv Y20], []⟩, ⟨[.own 1 tI 3 true], []⟩, c1A (jek N)⟩ :=
 mO ja Tryz.func237 rfl N (.seq .no (.seq .no (.seq (.seq .no (.block (.loop jng .no))) .no))) _ (wr := [7])
def jbr (N : Nat) (a : Int) (c : List Int) : Option (Int × (List Int)) :=
 (oB (jek N c) fun b => some (a, b))
theorem jks (N : Nat) : mK 198 ⟨⟨[.agg [pI, .pv Y20]], []⟩, ⟨[.agg [pI, .own 1 tI 3 true]], []⟩, c2A (jbr N)⟩ :=
 mO (fC (jqI N) ja) Tryz.func198 rfl N .no _ (dw := [9])
def joy : Sh := ⟨.pv Y11 :: .dead :: .dead :: .tre 600003 Y12 175 :: pI :: dz 18 [], []⟩
def jdx (N : Nat) (b : Z3) : Option (Z12) :=
 (if (b.length : Int) = (b.length : Int) ∧ 0 ≤ (b.length : Int) ∧ (b.length : Int) * 32 ≤ 140737488355328 ∧ (b.length : Int) ≤ 140737488355328 then iter (fun i (d, c, a) => bif decide (a < (d.length : Int)) then oB (idx d a) fun e => (oB (jbr N e.1 e.2) fun h => if 0 ≤ a ∧ a < (c.length : Int) then oB (c[a.toNat]?) fun j => (if fits (a + 1) then i (d, (c.set a.toNat h), (a + 1)) else none) else none) else some c) N (b, (List.replicate (b.length : Int).toNat (0, ([] : List Int))), (0 : Int)) else none)
theorem jpe (N : Nat) : mK 150 ⟨⟨[.pv Y11], []⟩, ⟨[.own 1 Y12 175 true], []⟩, c1A (jdx N)⟩ :=
 mO (fC (jks N) ja) Tryz.func150 rfl N (.seq .no (.seq .no (.seq (.seq .no (.block (.loop joy .no))) .no))) _ (wr := [7]) (dw := [20])
def jaM (N : Nat) (a : List UInt8) (d : List UInt8) (c : Z3) : Option Z1 :=
 (oB (jdx N c) fun b => some (a, d, b))
theorem jnB (N : Nat) : mK 99 ⟨⟨[.agg [pS, pS, .pv Y11]], []⟩, ⟨[.agg [pS, pS, .own 1 Y12 175 true]], []⟩, c3A (jaM N)⟩ :=
 mO (fC (jpe N) ja) Tryz.func99 rfl N .no _ (dw := [12])
def jk2 : Sh := ⟨.pv Y4 :: .dead :: .dead :: .tre 600003 Y5 136 :: pI :: dz 18 [], []⟩
def jd4 (N : Nat) (b : List Z1) : Option ((List Z1)) :=
 (if (b.length : Int) = (b.length : Int) ∧ 0 ≤ (b.length : Int) ∧ (b.length : Int) * 56 ≤ 140737488355328 ∧ (b.length : Int) ≤ 140737488355328 then iter (fun i (d, c, a) => bif decide (a < (d.length : Int)) then oB (idx d a) fun e => (oB (jaM N e.1 e.2.1 e.2.2) fun h => if 0 ≤ a ∧ a < (c.length : Int) then oB (c[a.toNat]?) fun j => (if fits (a + 1) then i (d, (c.set a.toNat h), (a + 1)) else none) else none) else some c) N (b, (List.replicate (b.length : Int).toNat (([] : List UInt8), ([] : List UInt8), ([] : Z3))), (0 : Int)) else none)
theorem jsC (N : Nat) : mK 55 ⟨⟨[.pv Y4], []⟩, ⟨[.own 1 Y5 136 true], []⟩, c1A (jd4 N)⟩ :=
 mO (fC (jnB N) ja) Tryz.func55 rfl N (.seq .no (.seq .no (.seq (.seq .no (.block (.loop jk2 .no))) .no))) _ (wr := [7]) (dw := [20])
def jZ (N : Nat) (a : List Z2) (d : List Z1) : Option ((List Z2) × (List Z1)) :=
 (oB (jdO N a) fun c => oB (jd4 N d) fun b => some (c, b))
theorem jqs (N : Nat) : mK 14 ⟨⟨[.agg [.pv Y2, .pv Y4]], []⟩, ⟨[.agg [.own 1 Y3 88 true, .own 2 Y5 136 true]], []⟩, c2A (jZ N)⟩ :=
 mO (fC (jsQ N) (fC (jsC N) ja)) Tryz.func14 rfl N .no _ (dw := [6, 10])
def jAj : Sh := ⟨[.agg [pI, pS, .pv (.sl .str), pI, pI, .pv (.sl .q)]], []⟩
def jAx : Sh := ⟨[.agg [pI, pS, .own 1 .str 9 true, pI, pI, .own 2 .q 48 true]], []⟩
def jCM : Sh := ⟨[.pv (.sl .q)], []⟩
def jCG : Sh := ⟨[.own 1 .q 48 true], []⟩
def jBg : Sh := ⟨.pv (.sl .q) :: .dead :: .dead :: .tre 600003 .q 48 :: pI :: dz 18 [], []⟩
def jyE (N : Nat) (h : Z15 → Option Z15) (b : List DQ) : Option ((List DQ)) :=
 (if (b.length : Int) = (b.length : Int) ∧ 0 ≤ (b.length : Int) ∧ (b.length : Int) * 88 ≤ 140737488355328 ∧ (b.length : Int) ≤ 140737488355328 then iter (fun j (f, e, a) => bif decide (a < (f.length : Int)) then oB (idx f a) fun d => (oB (h (d.kind, d.field, d.words, d.lo, d.hi, d.kids)) fun c => if 0 ≤ a ∧ a < (e.length : Int) then oB (e[a.toNat]?) fun k => (if fits (a + 1) then j (f, (e.set a.toNat (DQ.mk c.1 c.2.1 c.2.2.1 c.2.2.2.1 c.2.2.2.2.1 c.2.2.2.2.2)), (a + 1)) else none) else none) else some e) N (b, (List.replicate (b.length : Int).toNat (DQ.mk 0 ([] : List UInt8) ([] : List Z0) 0 0 ([] : List DQ))), (0 : Int)) else none)
def jAb (N : Nat) (F : Z15 → Option Z15) : Model := ⟨jCM, jCG, fun a => jyE N F a⟩
theorem jAY (N : Nat) (F : Z15 → Option Z15) (hF : mK 15 ⟨jAj, jAx, F⟩) : mK 56 (jAb N F) :=
 mO (fC hF ja) Tryz.func56 rfl N (.seq .no (.seq .no (.seq (.seq .no (.block (.loop jBg .no))) .no))) (jAb N F) (wr := [7]) (dw := [20])
def jxF (N : Nat) : (D : Nat) → Int → Z0 → (List Z0) → Int → Int → (List DQ) → Option Z15
 | 0, _, _, _, _, _, _ => none
 | D + 1, a, a2, a3, a4, a5, a6 =>
 oB (jci N a3) fun r =>
 oB (jyE N (fun a => jxF N D a.1 a.2.1 a.2.2.1 a.2.2.2.1 a.2.2.2.2.1 a.2.2.2.2.2) a6) fun r2 =>
 some (a, a2, r, a4, a5, r2)
def jx7 (N D : Nat) : Model := ⟨jAj, jAx, c6A (jxF N D)⟩
theorem jBK (N D : Nat) (ih : mK 15 (jx7 N D)) : mK 15 (jx7 N (D + 1)) :=
 mO (fC ih (fC (jiJ N) (fC (jAY N _ ih) ja))) Tryz.func15 rfl N .no (jx7 N (D + 1)) (dw := [12, 22])
theorem jy9 (N : Nat) : ∀ D, mK 15 (jx7 N D)
 | 0 => modelOk_none ⟨_, Tryz.func15, by decide, by kernel_rfl⟩ _ (fun a => rfl)
 | D + 1 => jBK N D (jy9 N D)
def jt (N : Nat) (a : Int) : Z11 :=
 (bif decide ((65 : Int) ≤ a) then bif decide (a ≤ 90) then some (IntKind.u8.wrap (a + 32)) else (bif decide ((97 : Int) ≤ a) then bif decide (a ≤ 122) then some a else (bif decide ((48 : Int) ≤ a) then bif decide (a ≤ 57) then some a else (some 0) else some 0) else bif decide ((48 : Int) ≤ a) then bif decide (a ≤ 57) then some a else (some 0) else some 0) else bif decide ((97 : Int) ≤ a) then bif decide (a ≤ 122) then some a else (bif decide ((48 : Int) ≤ a) then bif decide (a ≤ 57) then some a else (some 0) else some 0) else bif decide ((48 : Int) ≤ a) then bif decide (a ≤ 57) then some a else (some 0) else some 0)
theorem jfG (N : Nat) : mK 181 ⟨⟨[.pv (.int .u8)], []⟩, ⟨[.pv (.int .u8)], []⟩, c1A (jt N)⟩ :=
 mO ja Tryz.func181 rfl N .no _
def jJ (N : Nat) (a : Int) (c : Int) (b : Int) : Z7 :=
 (bif decide (c ≤ a) then some (decide (a ≤ b)) else some false)
theorem jcL (N : Nat) : mK 72 ⟨⟨[pI, pI, pI], []⟩, ⟨[pB], []⟩, c3A (jJ N)⟩ :=
 mO ja Tryz.func72 rfl N .no _
def jr5 : Sh := ⟨pS :: .dead :: .dead :: pI :: dz 23 [], []⟩
def jT (N : Nat) (c : List UInt8) : Z7 :=
 (iter (fun i (b, a) => bif decide (a < (b.length : Int)) then oB (idx b a) fun f => (oB (jt N (f.toNat : Int)) fun h => oB (idx b a) fun k => bif !decide (h = (k.toNat : Int)) then some false else oB (idx b a) fun j => bif decide ((j.toNat : Int) = 0) then some false else if fits (a + 1) then i (b, (a + 1)) else none) else oB (jJ N (b.length : Int) 1 12) fun d => some d) N (c, (0 : Int)))
theorem jgp (N : Nat) : mK 127 ⟨⟨[pS], []⟩, ⟨[pB], []⟩, c1A (jT N)⟩ :=
 mO (fC (jfG N) (fC (jcL N) ja)) Tryz.func127 rfl N (.seq .no (.seq (.seq .no (.block (.loop jr5 .no))) .no)) _
def jdI (N : Nat) : Option ((List Z0)) :=
 (some ([([105, 110, 103] : List UInt8), ([101, 100] : List UInt8), ([101, 115] : List UInt8), ([108, 121] : List UInt8), ([115] : List UInt8)] : List Z0))
theorem jkj (N : Nat) : mK 233 ⟨⟨[], []⟩, ⟨[.own 1 .str 9 true], []⟩, fun a => jdI N ⟩ :=
 mO ja Tryz.func233 rfl N .no _
def jl2 : Sh := ⟨pS :: .dead :: .dead :: pI :: dz 30 [], []⟩
def ja6 (N : Nat) (e : List UInt8) : Option (Z0) :=
 (iter (fun d (a, b) => oB (jdI N) fun i => bif decide (b < (i.length : Int)) then oB (jdI N) fun f => (oB (idx f b) fun c => if fits ((a.length : Int) - (c.length : Int)) then bif decide ((3 : Int) ≤ ((a.length : Int) - (c.length : Int))) then oB (cut a ((a.length : Int) - (c.length : Int)) (a.length : Int)) fun k => (bif decide (k = c) then oB (cut a 0 ((a.length : Int) - (c.length : Int))) fun j => (some j) else if fits (b + 1) then d (a, (b + 1)) else none) else (if fits (b + 1) then d (a, (b + 1)) else none) else none) else some a) N (e, (0 : Int)))
theorem jtL (N : Nat) : mK 182 ⟨⟨[pS], []⟩, ⟨[pS], []⟩, c1A (ja6 N)⟩ :=
 mO (fC (jkj N) ja) Tryz.func182 rfl N (.seq .no (.seq (.seq .no (.block (.loop jl2 .no))) .no)) _
def jto : Sh := ⟨pS :: dz 9 [], []⟩
def jaq (N : Nat) (a : List UInt8) : Option (Z0) :=
 (iter (fun e (c : Z0) => let s2 := c; (oB (ja6 N s2) fun d => bif !decide (d = s2) then oB (ja6 N s2) fun b => (e b) else some s2)) N a)
theorem jfZ (N : Nat) : mK 128 ⟨⟨[pS], []⟩, ⟨[pS], []⟩, c1A (jaq N)⟩ :=
 mO (fC (jtL N) ja) Tryz.func128 rfl N (.seq .no (.seq (.block (.loop jto .no)) .no)) _
def jlY : Sh := ⟨.pv (.sl .str) :: pS :: dz 3 (pI :: dz 12 []), []⟩
def jap (N : Nat) (f : List Z0) (d : List UInt8) : Z7 :=
 (iter (fun h (b, c, a) => bif decide (a < (b.length : Int)) then oB (idx b a) fun i => (bif decide (i = c) then some true else if fits (a + 1) then h (b, c, (a + 1)) else none) else some false) N (f, d, (0 : Int)))
theorem jhP (N : Nat) : mK 129 ⟨⟨[.pv (.sl .str), pS], []⟩, ⟨[pB], []⟩, c2A (jap N)⟩ :=
 mO ja Tryz.func129 rfl N (.seq .no (.seq (.seq .no (.block (.loop jlY .no))) .no)) _
def jrs : Sh := ⟨.dead :: .box 1 0 :: .dead :: pI :: dz 114 [], [(1, false, [.pv (.sl .str), .pv Y15])]⟩
def js0 : Sh := ⟨.dead :: .box 1 0 :: .dead :: .dead :: pI :: dz 113 [], [(1, false, [.pv (.sl .str), .pv Y15])]⟩
def jrc : Sh := ⟨.dead :: .box 1 0 :: .dead :: .dead :: pI :: .box 5 0 :: pI :: dz 111 [], [(1, false, [.pv (.sl .str), .pv Y15]), (5, false, [.pv (.sl .str), pS])]⟩
def jcw (N : Nat) (u : List Z0) (I : List Z4) : Z7 :=
 (iter (fun r (a, c, k) => bif decide (a < (c.length : Int)) then oB (idx c a) fun K => (oB (jT N K) fun E => bif !E then some false else bif decide ((0 : Int) < a) then oB (idx c a) fun p => (if fits (a - 1) then oB (idx c (a - 1)) fun o => (bif Op.bytesLess p o || decide (p = o) then some false else if fits (a + 1) then r ((a + 1), c, k) else none) else none) else if fits (a + 1) then r ((a + 1), c, k) else none) else iter (fun A (l, n, f) => bif decide (l < (f.length : Int)) then oB (idx f l) fun m => (iter (fun D (j, b, i, q, d, h) => bif decide (b < (d.length : Int)) then oB (idx d b) fun v => (oB (jT N v) fun t => bif !t then some false else oB (idx d b) fun H => oB (jaq N H) fun B => oB (idx d b) fun z => bif !decide (B = z) then some false else oB (idx d b) fun y => oB (jap N i y) fun w => bif w then some false else if fits (b + 1) then D (j, (b + 1), i, q, d, h) else none) else oB (jJ N (d.length : Int) 1 3) fun C => bif !C then some false else oB (jT N h) fun x => bif !x then some false else oB (jaq N h) fun G => bif !decide (G = h) then some false else if fits (j + 1) then A ((j + 1), i, q) else none) N (l, (0 : Int), n, f, m.1, m.2)) else bif decide ((n.length : Int) ≤ 6) then some (decide ((f.length : Int) ≤ 4)) else some false) N ((0 : Int), c, k)) N ((0 : Int), u, I))
theorem jtf (N : Nat) : mK 85 ⟨⟨[.agg [.pv (.sl .str), .pv Y15]], []⟩, ⟨[pB], []⟩, c2A (jcw N)⟩ :=
 mO (fC (jgp N) (fC (jfZ N) (fC (jhP N) (fC (jcL N) ja)))) Tryz.func85 rfl N (.seq .no (.seq (.seq .no (.block (.loop jrs .no))) (.seq (.seq .no (.block (.loop js0 (.seq .no (.seq (.block (.seq .no (.seq (.seq .no (.block (.loop jrc .no))) .no))) .no))))) .no))) _
def jot : Sh := ⟨pS :: .dead :: .dead :: pI :: dz 19 [], []⟩
def jcu (N : Nat) (c : List UInt8) : Z7 :=
 (iter (fun f (b, a) => bif decide (a < (b.length : Int)) then oB (idx b a) fun e => (bif decide ((e.toNat : Int) < 32) then some false else oB (idx b a) fun h => bif decide ((126 : Int) < (h.toNat : Int)) then some false else if fits (a + 1) then f (b, (a + 1)) else none) else some (decide ((b.length : Int) ≤ 160))) N (c, (0 : Int)))
theorem jpZ (N : Nat) : mK 183 ⟨⟨[pS], []⟩, ⟨[pB], []⟩, c1A (jcu N)⟩ :=
 mO ja Tryz.func183 rfl N (.seq .no (.seq (.seq .no (.block (.loop jot .no))) .no)) _
def jp0 : Sh := ⟨.dead :: .box 1 0 :: .dead :: pI :: dz 100 [], [(1, false, [pI, .pv Y18, .pv Y14])]⟩
def jtP : Sh := ⟨.dead :: .box 1 0 :: dz 3 (pI :: dz 98 []), [(1, false, [pI, .pv Y18, .pv Y14])]⟩
def jcb (N : Nat) (v : Int) (B : Z16) (z : Z8) : Z7 :=
 (iter (fun o (b, i, d, j) => bif decide (b < (d.length : Int)) then oB (idx d b) fun e => (oB (jT N e.1) fun A => bif !A then some false else oB (jcu N e.2) fun q => bif !q then some false else bif decide ((0 : Int) < b) then if fits (b - 1) then oB (idx d (b - 1)) fun n => (bif Op.bytesLess e.1 n.1 || decide (e.1 = n.1) then some false else if fits (b + 1) then o ((b + 1), i, d, j) else none) else none else if fits (b + 1) then o ((b + 1), i, d, j) else none) else iter (fun m (a, k, h, c) => bif decide (a < (c.length : Int)) then oB (idx c a) fun y => (oB (jT N y.1) fun w => bif !w then some false else oB (idx c a) fun u => oB (jJ N u.2 0 999999999) fun r => bif !r then some false else bif decide ((0 : Int) < a) then oB (idx c a) fun l => (if fits (a - 1) then oB (idx c (a - 1)) fun p => (bif Op.bytesLess l.1 p.1 || decide (l.1 = p.1) then some false else if fits (a + 1) then m ((a + 1), k, h, c) else none) else none) else if fits (a + 1) then m ((a + 1), k, h, c) else none) else oB (jJ N k 1 9999) fun x => bif x then oB (jJ N (h.length : Int) 0 3) fun t => (bif t then some (decide ((c.length : Int) ≤ 3)) else some false) else some false) N ((0 : Int), i, d, j)) N ((0 : Int), v, B, z))
theorem jpD (N : Nat) : mK 130 ⟨⟨[.agg [pI, .pv Y18, .pv Y14]], []⟩, ⟨[pB], []⟩, c3A (jcb N)⟩ :=
 mO (fC (jgp N) (fC (jpZ N) (fC (jcL N) ja))) Tryz.func130 rfl N (.seq .no (.seq (.seq .no (.block (.loop jp0 .no))) (.seq (.seq .no (.block (.loop jtP .no))) .no))) _
def jkS : Sh := ⟨.pv Y2 :: .dead :: .dead :: pI :: dz 33 [], []⟩
def jbU (N : Nat) (i : List Z2) : Z7 :=
 (iter (fun d (b, a) => bif decide (a < (b.length : Int)) then oB (idx b a) fun c => (oB (jcb N c.1 c.2.1 c.2.2) fun h => bif !h then some false else bif decide ((0 : Int) < a) then oB (idx b a) fun j => (if fits (a - 1) then oB (idx b (a - 1)) fun e => (bif decide (j.1 ≤ e.1) then some false else if fits (a + 1) then d (b, (a + 1)) else none) else none) else if fits (a + 1) then d (b, (a + 1)) else none) else some (decide ((b.length : Int) ≤ 16))) N (i, (0 : Int)))
theorem jpx (N : Nat) : mK 86 ⟨⟨[.pv Y2], []⟩, ⟨[pB], []⟩, c1A (jbU N)⟩ :=
 mO (fC (jpD N) ja) Tryz.func86 rfl N (.seq .no (.seq (.seq .no (.block (.loop jkS .no))) .no)) _
def jl5 : Sh := ⟨.pv (.sl .str) :: pS :: dz 3 (pI :: dz 42 []), []⟩
def s_l7Put_m (N : Nat) (o : List Z0) (m : List UInt8) : Option ((List Z0)) :=
 (iter (fun r (a, b, c) => bif decide (c < (a.length : Int)) then oB (idx a c) fun t => (bif Op.bytesLess t b then if fits (c + 1) then r (a, b, (c + 1)) else none else bif decide (c < (a.length : Int)) then oB (idx a c) fun q => (bif decide (q = b) then some a else oB (cut a 0 c) fun h => if room ([] : List Z0).length h.length 16 then if room (([] : List Z0) ++ h).length ([b] : List Z0).length 16 then oB (cut a c (a.length : Int)) fun l => (if room ((([] : List Z0) ++ h) ++ ([b] : List Z0)).length l.length 16 then some (((([] : List Z0) ++ h) ++ ([b] : List Z0)) ++ l) else none) else none else none) else oB (cut a 0 c) fun e => if room ([] : List Z0).length e.length 16 then if room (([] : List Z0) ++ e).length ([b] : List Z0).length 16 then oB (cut a c (a.length : Int)) fun k => (if room ((([] : List Z0) ++ e) ++ ([b] : List Z0)).length k.length 16 then some (((([] : List Z0) ++ e) ++ ([b] : List Z0)) ++ k) else none) else none else none) else bif decide (c < (a.length : Int)) then oB (idx a c) fun p => (bif decide (p = b) then some a else oB (cut a 0 c) fun f => if room ([] : List Z0).length f.length 16 then if room (([] : List Z0) ++ f).length ([b] : List Z0).length 16 then oB (cut a c (a.length : Int)) fun i => (if room ((([] : List Z0) ++ f) ++ ([b] : List Z0)).length i.length 16 then some (((([] : List Z0) ++ f) ++ ([b] : List Z0)) ++ i) else none) else none else none) else oB (cut a 0 c) fun d => if room ([] : List Z0).length d.length 16 then if room (([] : List Z0) ++ d).length ([b] : List Z0).length 16 then oB (cut a c (a.length : Int)) fun j => (if room ((([] : List Z0) ++ d) ++ ([b] : List Z0)).length j.length 16 then some (((([] : List Z0) ++ d) ++ ([b] : List Z0)) ++ j) else none) else none else none) N (o, m, (0 : Int)))
theorem jgt (N : Nat) : mK 184 ⟨⟨[.pv (.sl .str), pS], []⟩, ⟨[.pv (.sl .str)], []⟩, c2A (s_l7Put_m N)⟩ :=
 mO ja Tryz.func184 rfl N (.seq .no (.seq .no (.seq (.block (.loop jl5 .no)) .no))) _
def joT : Sh := ⟨.pv Y2 :: .dead :: .dead :: .pv (.sl .str) :: pI :: dz 30 [], []⟩
def jkn : Sh := ⟨.pv Y2 :: .dead :: .dead :: .pv (.sl .str) :: pI :: pI :: dz 29 [], []⟩
def s_l7Names_m (N : Nat) (o : List Z2) : Option ((List Z0)) :=
 (iter (fun m (e, i, h) => bif decide (h < (e.length : Int)) then iter (fun n (c, f, a, b) => oB (idx c a) fun p => bif decide (b < (p.2.1.length : Int)) then oB (idx c a) fun l => (oB (idx l.2.1 b) fun j => oB (s_l7Put_m N f j.1) fun k => if fits (b + 1) then n (c, k, a, (b + 1)) else none) else if fits (a + 1) then m (c, f, (a + 1)) else none) N (e, i, h, (0 : Int)) else some i) N (o, ([] : List Z0), (0 : Int)))
theorem jlz (N : Nat) : mK 131 ⟨⟨[.pv Y2], []⟩, ⟨[.pv (.sl .str)], []⟩, c1A (s_l7Names_m N)⟩ :=
 mO (fC (jgt N) ja) Tryz.func131 rfl N (.seq .no (.seq .no (.seq (.seq .no (.block (.loop joT (.seq .no (.seq (.block (.seq .no (.block (.loop jkn .no)))) .no))))) .no))) _
def jl8 : Sh := ⟨.dead :: pS :: .box 2 0 :: .dead :: .dead :: pI :: dz 21 [], [(2, false, [pI, .pv Y18, .pv Y14])]⟩
def s_l6Field_m (N : Nat) (i : Int) (k : Z16) (f : Z8) (d : List UInt8) : Option (Z0) :=
 (iter (fun l (c, a, j, b, n) => bif decide (a < (b.length : Int)) then oB (idx b a) fun m => (bif decide (m.1 = c) then oB (idx b a) fun h => (some h.2) else if fits (a + 1) then l (c, (a + 1), j, b, n) else none) else some ([] : List UInt8)) N (d, (0 : Int), i, k, f))
theorem jhA (N : Nat) : mK 185 ⟨⟨[.agg [pI, .pv Y18, .pv Y14], pS], []⟩, ⟨[pS], []⟩, c4A (s_l6Field_m N)⟩ :=
 mO ja Tryz.func185 rfl N (.seq .no (.seq (.seq .no (.block (.loop jl8 .no))) .no)) _
def jo3 : Sh := ⟨pS :: .dead :: .dead :: .own 600003 Y6 246 true :: pI :: dz 50 [], []⟩
def jm6 : Sh := ⟨pS :: .dead :: .dead :: .own 600003 Y6 246 true :: pI :: .own 600005 (.int .u8) 5 true :: pI :: dz 48 [], []⟩
def jtK : Sh := ⟨pS :: .dead :: .dead :: .own 600003 Y6 246 true :: pI :: .pv (.sl (.int .u8)) :: pI :: dz 48 [], []⟩
def jb3 (N : Nat) (z : List UInt8) : Option ((List Z9)) :=
 (iter (fun l (u, v, m) => bif decide (m < (u.length : Int)) then iter (fun B (c, h, a, b, k) => bif decide (a < (c.length : Int)) then oB (idx c a) fun A => (oB (jt N (A.toNat : Int)) fun C => bif !decide (C = 0) then oB (idx c a) fun G => (oB (jt N (G.toNat : Int)) fun p => if room b.length ([p] : List Int).length 1 then if fits (a + 1) then B (c, h, (a + 1), (b ++ ([p] : List Int)), k) else none else none) else meet (fun (d : Z0 × (List Z9) × Int × (List Int) × Int) => match d with | (x, j, f, n, r) => bif decide ((0 : Int) < (n.length : Int)) then if room j.length ([((bytesOf n), (j.length : Int), r, f)] : List Z9).length 40 then if fits (f + 1) then l (x, (j ++ ([((bytesOf n), (j.length : Int), r, f)] : List Z9)), (f + 1)) else none else none else if fits (f + 1) then l (x, j, (f + 1)) else none) fun q => bif decide ((12 : Int) < (b.length : Int)) then oB (cut b 0 12) fun E => (q (c, h, a, E, k)) else q (c, h, a, b, k)) else meet (fun (d : Z0 × (List Z9) × Int × (List Int) × Int) => match d with | (t, i, e, o, w) => bif decide ((0 : Int) < (o.length : Int)) then if room i.length ([((bytesOf o), (i.length : Int), w, e)] : List Z9).length 40 then if fits (e + 1) then l (t, (i ++ ([((bytesOf o), (i.length : Int), w, e)] : List Z9)), (e + 1)) else none else none else if fits (e + 1) then l (t, i, (e + 1)) else none) fun y => bif decide ((12 : Int) < (b.length : Int)) then oB (cut b 0 12) fun D => (y (c, h, a, D, k)) else y (c, h, a, b, k)) N (u, v, m, ([] : List Int), m) else some v) N (z, ([] : List Z9), (0 : Int)))
theorem jsr (N : Nat) : mK 235 ⟨⟨[pS], []⟩, ⟨[.own 1 Y6 246 true], []⟩, c1A (jb3 N)⟩ :=
 mO (fC (jfG N) ja) Tryz.func235 rfl N (.seq .no (.seq .no (.seq (.seq .no (.block (.loop jo3 (.seq .no (.seq (.block (.seq .no (.seq .no (.seq (.block (.loop jm6 .no)) (.meet jtK .no .no))))) .no))))) .no))) _
def jmf : Sh := ⟨.dead :: .dead :: .box 2 0 :: .dead :: .dead :: .own 600005 Y16 186 true :: .own 600006 Y6 246 true :: pI :: dz 43 [], [(2, false, [.pv (.sl .str), .pv Y15])]⟩
def jbY (N : Nat) (l : List Z0) (q : List Z4) (j : List UInt8) : Option (Z6) :=
 (oB (jb3 N j) fun o => iter (fun h (c, b, a, d, f) => bif decide (a < (b.length : Int)) then oB (idx b a) fun r => (oB (jaq N r.1) fun e => oB (idx b a) fun p => oB (jap N d p.1) fun n => bif !n then oB (jap N d e) fun m => (bif !m then oB (idx b a) fun i => (if room c.length ([(e, i.2.1)] : Z8).length 24 then if fits (a + 1) then h ((c ++ ([(e, i.2.1)] : Z8)), b, (a + 1), d, f) else none else none) else if fits (a + 1) then h (c, b, (a + 1), d, f) else none) else if fits (a + 1) then h (c, b, (a + 1), d, f) else none) else some c) N (([] : Z8), o, (0 : Int), l, q))
theorem jrk (N : Nat) : mK 192 ⟨⟨[.agg [.pv (.sl .str), .pv Y15], pS], []⟩, ⟨[.own 1 Y16 186 true], []⟩, c3A (jbY N)⟩ :=
 mO (fC (jsr N) (fC (jfZ N) (fC (jhP N) ja))) Tryz.func192 rfl N (.seq .no (.seq .no (.seq .no (.seq (.seq .no (.block (.loop jmf .no))) .no)))) _
def jrL : Sh := ⟨.pv Y14 :: .pv (.sl .str) :: dz 3 (pI :: dz 36 []), []⟩
def jcC (N : Nat) (h : Z8) (l : List Z0) : Z7 :=
 (iter (fun j (b, c, a) => bif decide (a < (c.length : Int)) then bif decide ((b.length : Int) ≤ a) then some false else (oB (idx b a) fun k => oB (idx c a) fun i => bif !decide (k.1 = i) then some false else oB (idx b a) fun e => oB (idx b 0) fun d => if fits (d.2 + a) then bif !decide (e.2 = (d.2 + a)) then some false else (if fits (a + 1) then j (b, c, (a + 1)) else none) else none) else some true) N (h, l, (0 : Int)))
theorem jtg (N : Nat) : mK 236 ⟨⟨[.pv Y14, .pv (.sl .str)], []⟩, ⟨[pB], []⟩, c2A (jcC N)⟩ :=
 mO ja Tryz.func236 rfl N (.seq .no (.seq (.seq .no (.block (.loop jrL .no))) .no)) _
def jlL : Sh := ⟨.dead :: .pv Y14 :: .box 2 0 :: .dead :: .dead :: pI :: pI :: dz 38 [], [(2, false, [.pv (.sl .str), .pv Y15])]⟩
def jcJ (N : Nat) (j : List Z0) (n : List Z4) (m : Z8) : Z11 :=
 (iter (fun e (d, c, a, f, b) => bif decide (a < (b.length : Int)) then oB (idx b a) fun o => (oB (jcC N d o.1) fun k => bif k then bif decide (c < 0) then if fits (a + 1) then e (d, a, (a + 1), f, b) else none else (oB (idx b a) fun l => oB (idx b c) fun h => bif decide ((h.1.length : Int) < (l.1.length : Int)) then if fits (a + 1) then e (d, a, (a + 1), f, b) else none else if fits (a + 1) then e (d, c, (a + 1), f, b) else none) else if fits (a + 1) then e (d, c, (a + 1), f, b) else none) else some c) N (m, ((-1) : Int), (0 : Int), j, n))
theorem jqp (N : Nat) : mK 193 ⟨⟨[.agg [.pv (.sl .str), .pv Y15], .pv Y14], []⟩, ⟨[pI], []⟩, c3A (jcJ N)⟩ :=
 mO (fC (jtg N) ja) Tryz.func193 rfl N (.seq .no (.seq .no (.seq (.seq .no (.block (.loop jlL .no))) .no))) _
def jnK : Sh := ⟨.dead :: .dead :: .box 2 0 :: .dead :: .dead :: .own 600005 Y16 186 true :: .pv Y14 :: dz 45 [], [(2, false, [.pv (.sl .str), .pv Y15])]⟩
def ja5 (N : Nat) (f : List Z0) (k : List Z4) (m : List UInt8) : Option (Z6) :=
 (oB (jbY N f k m) fun p => iter (fun j (b, a, e, c) => bif decide ((0 : Int) < (a.length : Int)) then oB (jcJ N e c a) fun d => (bif decide (d < 0) then oB (idx a 0) fun l => (if room b.length ([l] : Z8).length 24 then oB (cut a 1 (a.length : Int)) fun r => (j ((b ++ ([l] : Z8)), r, e, c)) else none) else oB (idx c d) fun i => oB (idx a 0) fun h => if room b.length ([(i.2, h.2)] : Z8).length 24 then oB (idx c d) fun o => (oB (cut a (o.1.length : Int) (a.length : Int)) fun q => j ((b ++ ([(i.2, h.2)] : Z8)), q, e, c)) else none) else some b) N (([] : Z8), p, f, k))
theorem jiO (N : Nat) : mK 142 ⟨⟨[.agg [.pv (.sl .str), .pv Y15], pS], []⟩, ⟨[.own 1 Y16 186 true], []⟩, c3A (ja5 N)⟩ :=
 mO (fC (jrk N) (fC (jqp N) ja)) Tryz.func142 rfl N (.seq .no (.seq .no (.seq .no (.seq (.block (.loop jnK .no)) .no)))) _
def jn9 : Sh := ⟨.dead :: .pv Y2 :: pS :: .box 3 0 :: dz 3 (.pv (.sl .str) :: pI :: dz 31 []), [(3, false, [.pv (.sl .str), .pv Y15])]⟩
def jrT : Sh := ⟨.dead :: .pv Y2 :: pS :: .box 3 0 :: dz 3 (.pv (.sl .str) :: pI :: .own 600009 Y16 186 true :: pI :: dz 29 []), [(3, false, [.pv (.sl .str), .pv Y15])]⟩
def s_l7Terms_m (N : Nat) (t : List Z0) (B : List Z4) (A : List Z2) (v : List UInt8) : Option ((List Z0)) :=
 (iter (fun z (c, q, k, e, o, m) => bif decide (e < (c.length : Int)) then oB (idx c e) fun f => (oB (s_l6Field_m N f.1 f.2.1 f.2.2 q) fun x => oB (ja5 N o m x) fun r => iter (fun u (p, l, i, h, d, a, j, n) => bif decide (a < (d.length : Int)) then oB (idx d a) fun y => (oB (s_l7Put_m N i y.1) fun w => if fits (a + 1) then u (p, l, w, h, d, (a + 1), j, n) else none) else if fits (h + 1) then z (p, l, i, (h + 1), j, n) else none) N (c, q, k, e, r, (0 : Int), o, m)) else some k) N (A, v, ([] : List Z0), (0 : Int), t, B))
theorem jqQ (N : Nat) : mK 132 ⟨⟨[.agg [.pv (.sl .str), .pv Y15], .pv Y2, pS], []⟩, ⟨[.pv (.sl .str)], []⟩, c4A (s_l7Terms_m N)⟩ :=
 mO (fC (jhA N) (fC (jiO N) (fC (jgt N) ja))) Tryz.func132 rfl N (.seq .no (.seq .no (.seq (.seq .no (.block (.loop jn9 (.seq .no (.seq (.block (.seq .no (.seq .no (.block (.loop jrT .no))))) .no))))) .no))) _
def jnY : Sh := ⟨dz 3 (pS :: dz 5 (.own 600009 tI 3 true :: .own 600010 Y16 186 true :: pI :: dz 28 [])), []⟩
def s_l7Post_m (N : Nat) (j : List Z0) (q : List Z4) (k : Int) (p : Z16) (n : Z8) (m : List UInt8) (l : List UInt8) : Option ((List Int)) :=
 (oB (s_l6Field_m N k p n m) fun o => oB (ja5 N j q o) fun h => iter (fun f (d, c, b, a) => bif decide (a < (b.length : Int)) then oB (idx b a) fun r => (bif decide (r.1 = d) then oB (idx b a) fun e => (if room c.length ([e.2] : List Int).length 8 then if fits (a + 1) then f (d, (c ++ ([e.2] : List Int)), b, (a + 1)) else none else none) else if fits (a + 1) then f (d, c, b, (a + 1)) else none) else some c) N (l, ([] : List Int), h, (0 : Int)))
theorem js6 (N : Nat) : mK 186 ⟨⟨[.agg [.pv (.sl .str), .pv Y15], .agg [pI, .pv Y18, .pv Y14], pS, pS], []⟩, ⟨[.own 1 tI 3 true], []⟩, c7A (s_l7Post_m N)⟩ :=
 mO (fC (jhA N) (fC (jiO N) ja)) Tryz.func186 rfl N (.seq .no (.seq .no (.seq .no (.seq (.seq .no (.block (.loop jnY .no))) .no)))) _
def jkw : Sh := ⟨.dead :: .pv Y2 :: pS :: pS :: .box 4 0 :: dz 3 (.box 8 0 :: .box 9 0 :: pI :: dz 34 []), [(4, false, [.pv (.sl .str), .pv Y15]), (8, false, [pS, pS, .nils]), (9, false, [pS, pS, .own 700902 Y12 175 true])]⟩
def s_l7Entry_m (N : Nat) (u : List Z0) (w : List Z4) (v : List Z2) (q : List UInt8) (p : List UInt8) : Option Z1 :=
 (iter (fun r (b, l, i, a, j, f, m, n, k, h, c) => bif decide (a < (b.length : Int)) then oB (idx b a) fun d => (oB (s_l7Post_m N j f d.1 d.2.1 d.2.2 l i) fun e => bif decide ((0 : Int) < (e.length : Int)) then oB (idx b a) fun o => (if room c.length ([(o.1, e)] : Z3).length 32 then if fits (a + 1) then r (b, l, i, (a + 1), j, f, m, n, k, h, (c ++ ([(o.1, e)] : Z3))) else none else none) else if fits (a + 1) then r (b, l, i, (a + 1), j, f, m, n, k, h, c) else none) else some (k, h, c)) N (v, q, p, (0 : Int), u, w, ([] : List UInt8), ([] : List UInt8), q, p, ([] : Z3)))
theorem jtr (N : Nat) : mK 133 ⟨⟨[.agg [.pv (.sl .str), .pv Y15], .pv Y2, pS, pS], []⟩, ⟨[.agg [pS, pS, .own 1 Y12 175 true]], []⟩, c5A (s_l7Entry_m N)⟩ :=
 mO (fC (js6 N) ja) Tryz.func133 rfl N (.seq .no (.seq .no (.seq (.seq .no (.block (.loop jkw .no))) .no))) _
def s_l7CopyDoc_m (N : Nat) (c : Int) (b : Z16) (a : Z8) : Option Z2 :=
 (if room ([] : Z16).length b.length 32 then if room ([] : Z8).length a.length 24 then some (c, (([] : Z16) ++ b), (([] : Z8) ++ a)) else none else none)
theorem jtC (N : Nat) : mK 134 ⟨⟨[.agg [pI, .pv Y18, .pv Y14]], []⟩, ⟨[.agg [pI, .own 1 Y19 199 true, .own 2 Y16 192 true]], []⟩, c3A (s_l7CopyDoc_m N)⟩ :=
 mO ja Tryz.func134 rfl N .no _
def jn8 : Sh := ⟨.dead :: .pv Y2 :: .box 2 0 :: .dead :: .box 4 0 :: .box 5 0 :: .pv (.sl .str) :: pI :: dz 58 [], [(2, false, [.pv (.sl .str), .pv Y15]), (4, false, [.nils, .nils]), (5, false, [.nils, .own 700501 Y5 136 true])]⟩
def jpr : Sh := ⟨.dead :: .pv Y2 :: .box 2 0 :: .dead :: .box 4 0 :: .box 5 0 :: .pv (.sl .str) :: pI :: .pv (.sl .str) :: pI :: dz 56 [], [(2, false, [.pv (.sl .str), .pv Y15]), (4, false, [.nils, .nils]), (5, false, [.nils, .own 700501 Y5 136 true])]⟩
def jn0 : Sh := ⟨.dead :: .pv Y2 :: .dead :: .dead :: .box 4 0 :: .box 5 0 :: dz 4 (pI :: dz 55 []), [(4, false, [.nils, .nils]), (5, false, [.own 700500 Y3 88 true, .own 700501 Y5 136 true])]⟩
def s_l7Of_m (N : Nat) (A : List Z0) (I : List Z4) (x : List Z2) : Option ((List Z2) × (List Z1)) :=
 (oB (s_l7Names_m N x) fun E => iter (fun H (f, l, j, w, v, r) => bif decide (j < (l.length : Int)) then oB (idx l j) fun K => (oB (s_l7Terms_m N w v f K) fun z => iter (fun B (q, o, d, n, c, k, p, m) => bif decide (c < (n.length : Int)) then oB (idx o d) fun G => (oB (idx n c) fun D => oB (s_l7Entry_m N k p q G D) fun u => if room m.length ([u] : List Z1).length 56 then if fits (c + 1) then B (q, o, d, n, (c + 1), k, p, (m ++ ([u] : List Z1))) else none else none) else if fits (d + 1) then H (q, o, (d + 1), k, p, m) else none) N (f, l, j, z, (0 : Int), w, v, r)) else iter (fun C (e, b, i, y) => bif decide (b < (e.length : Int)) then oB (idx e b) fun h => (oB (s_l7CopyDoc_m N h.1 h.2.1 h.2.2) fun t => if room i.length ([t] : List Z2).length 56 then if fits (b + 1) then C (e, (b + 1), (i ++ ([t] : List Z2)), y) else none else none) else some (i, y)) N (f, (0 : Int), ([] : List Z2), r)) N (x, E, (0 : Int), A, I, ([] : List Z1)))
theorem jmU (N : Nat) : mK 87 ⟨⟨[.agg [.pv (.sl .str), .pv Y15], .pv Y2], []⟩, ⟨[.agg [.own 1 Y3 88 true, .own 2 Y5 136 true]], []⟩, c3A (s_l7Of_m N)⟩ :=
 mO (fC (jlz N) (fC (jqQ N) (fC (jtr N) (fC (jtC N) ja)))) Tryz.func87 rfl N (.seq .no (.seq .no (.seq .no (.seq (.seq .no (.block (.loop jn8 (.seq .no (.seq (.block (.seq .no (.seq .no (.block (.loop jpr .no))))) .no))))) (.seq (.seq .no (.block (.loop jn0 .no))) .no))))) _
def jnI : Sh := ⟨.pv Y20 :: .pv Y20 :: dz 3 (pI :: dz 20 []), []⟩
def jb1 (N : Nat) (c : List Int) (d : List Int) : Z7 :=
 (bif !decide ((c.length : Int) = (d.length : Int)) then some false else iter (fun i (b, e, a) => bif decide (a < (b.length : Int)) then oB (idx b a) fun j => (oB (idx e a) fun h => bif !decide (j = h) then some false else if fits (a + 1) then i (b, e, (a + 1)) else none) else some true) N (c, d, (0 : Int)))
theorem jlH (N : Nat) : mK 135 ⟨⟨[.pv Y20, .pv Y20], []⟩, ⟨[pB], []⟩, c2A (jb1 N)⟩ :=
 mO ja Tryz.func135 rfl N (.seq .no (.seq .no (.seq (.seq .no (.block (.loop jnI .no))) .no))) _
def jnx : Sh := ⟨.dead :: .dead :: .box 2 0 :: .box 3 0 :: .dead :: pI :: dz 57 [], [(2, false, [pS, pS, .pv Y11]), (3, false, [pS, pS, .pv Y11])]⟩
def jbQ (N : Nat) (d : List UInt8) (j : List UInt8) (h : Z3) (e : List UInt8) (f : List UInt8) (i : Z3) : Z7 :=
 (bif !decide (d = e) then some false else bif !decide (j = f) then some false else bif !decide ((h.length : Int) = (i.length : Int)) then some false else iter (fun u (a, l, r, b, q, k, c) => bif decide (a < (b.length : Int)) then oB (idx b a) fun v => (oB (idx c a) fun t => bif !decide (v.1 = t.1) then some false else oB (idx b a) fun o => oB (idx c a) fun n => oB (jb1 N o.2 n.2) fun p => bif !p then some false else if fits (a + 1) then u ((a + 1), l, r, b, q, k, c) else none) else some true) N ((0 : Int), d, j, h, e, f, i))
theorem jtG (N : Nat) : mK 88 ⟨⟨[.agg [pS, pS, .pv Y11], .agg [pS, pS, .pv Y11]], []⟩, ⟨[pB], []⟩, c6A (jbQ N)⟩ :=
 mO (fC (jlH N) ja) Tryz.func88 rfl N (.seq .no (.seq .no (.seq (.seq .no (.block (.loop jnx .no))) .no))) _
def jrW : Sh := ⟨dz 3 (.box 3 0 :: .dead :: .box 5 0 :: pI :: dz 39 []), [(3, false, [.pv Y2, .pv Y4]), (5, false, [.own 700500 Y3 88 true, .own 700501 Y5 136 true])]⟩
def s_l7Ok_m (N : Nat) (h : List Z0) (k : List Z4) (b : List Z2) (i : List Z1) : Z7 :=
 (oB (jcw N h k) fun q => bif !q then some false else oB (jbU N b) fun l => bif !l then some false else oB (s_l7Of_m N h k b) fun d => bif !decide ((d.2.length : Int) = (i.length : Int)) then some false else iter (fun r (a, o, j, p, c) => bif decide (a < (c.length : Int)) then oB (idx c a) fun f => (oB (idx j a) fun e => oB (jbQ N f.1 f.2.1 f.2.2 e.1 e.2.1 e.2.2) fun n => bif !n then some false else if fits (a + 1) then r ((a + 1), o, j, p, c) else none) else some true) N ((0 : Int), b, i, d.1, d.2))
theorem jpm (N : Nat) : mK 48 ⟨⟨[.agg [.pv (.sl .str), .pv Y15], .agg [.pv Y2, .pv Y4]], []⟩, ⟨[pB], []⟩, c4A (s_l7Ok_m N)⟩ :=
 mO (fC (jtf N) (fC (jpx N) (fC (jmU N) (fC (jtG N) ja)))) Tryz.func48 rfl N (.seq .no (.seq .no (.seq .no (.seq .no (.seq (.seq .no (.block (.loop jrW .no))) .no))))) _
def jxz (N : Nat) (k : Int) (i : List UInt8) (h : List Z0) (c : Int) (e : Int) (a : List DQ) (j : Bool) (f : Bool) (d : Bool) (b : Bool) : Z7 :=
 (bif j then bif f then bif d then bif b then some true else (some (decide ((a.length : Int) = 0))) else (bif decide (c = 0) then bif decide (e = 0) then bif b then some true else (some (decide ((a.length : Int) = 0))) else (some false) else some false) else (bif decide ((h.length : Int) = 0) then bif d then bif b then some true else (some (decide ((a.length : Int) = 0))) else (bif decide (c = 0) then bif decide (e = 0) then bif b then some true else (some (decide ((a.length : Int) = 0))) else (some false) else some false) else some false) else bif decide (i = ([] : List UInt8)) then bif f then bif d then bif b then some true else (some (decide ((a.length : Int) = 0))) else (bif decide (c = 0) then bif decide (e = 0) then bif b then some true else (some (decide ((a.length : Int) = 0))) else (some false) else some false) else (bif decide ((h.length : Int) = 0) then bif d then bif b then some true else (some (decide ((a.length : Int) = 0))) else (bif decide (c = 0) then bif decide (e = 0) then bif b then some true else (some (decide ((a.length : Int) = 0))) else (some false) else some false) else some false) else some false)
theorem jDV (N : Nat) : mK 187 ⟨⟨[.agg [pI, pS, .pv (.sl .str), pI, pI, .pv (.sl .q)], pB, pB, pB, pB], []⟩, ⟨[pB], []⟩, c10A (jxz N)⟩ :=
 mO ja Tryz.func187 rfl N .no _
def jDt : Sh := ⟨.pv (.sl .str) :: pI :: dz 3 (pI :: dz 16 []), []⟩
def jxL (N : Nat) (i : List Z0) (h : Int) : Z7 :=
 (iter (fun j (b, c, a) => bif decide (a < (b.length : Int)) then oB (idx b a) fun k => (oB (jT N k) fun f => bif !f then some false else if fits (a + 1) then j (b, c, (a + 1)) else none) else oB (jJ N (b.length : Int) 1 c) fun d => some d) N (i, h, (0 : Int)))
theorem jDs (N : Nat) : mK 188 ⟨⟨[.pv (.sl .str), pI], []⟩, ⟨[pB], []⟩, c2A (jxL N)⟩ :=
 mO (fC (jgp N) (fC (jcL N) ja)) Tryz.func188 rfl N (.seq .no (.seq (.seq .no (.block (.loop jDt .no))) .no)) _
def jBL : Sh := ⟨pS :: .dead :: .dead :: pI :: dz 28 [], []⟩
def jyk (N : Nat) (d : List UInt8) : Z7 :=
 (iter (fun c (b, a) => bif decide (a < (b.length : Int)) then oB (idx b a) fun h => (bif !decide ((h.toNat : Int) = 42) then oB (idx b a) fun k => (bif !decide ((k.toNat : Int) = 63) then if fits (a + 1) then oB (cut b a (a + 1)) fun j => (oB (jT N j) fun i => bif !i then some false else if fits (a + 1) then c (b, (a + 1)) else none) else none else if fits (a + 1) then c (b, (a + 1)) else none) else if fits (a + 1) then c (b, (a + 1)) else none) else oB (jJ N (b.length : Int) 1 12) fun e => some e) N (d, (0 : Int)))
theorem jC1 (N : Nat) : mK 189 ⟨⟨[pS], []⟩, ⟨[pB], []⟩, c1A (jyk N)⟩ :=
 mO (fC (jgp N) (fC (jcL N) ja)) Tryz.func189 rfl N (.seq .no (.seq (.seq .no (.block (.loop jBL .no))) .no)) _
def jDP : Sh := ⟨.dead :: .box 1 0 :: .dead :: pI :: dz 4 (pI :: dz 123 (pB :: dz 34 [])), [(1, false, [pI, pS, .pv (.sl .str), pI, pI, .pv (.sl .q)])]⟩
def jyq (N : Nat) (a : Int) (c : List UInt8) (b : List Z0) (d : Int) (e : Int) (f : List DQ) : Z7 :=
 (bif decide (a = 1) then oB (jxz N a c b d e f false false false false) fun R => (some R) else bif decide (a = 2) then oB (jxz N a c b d e f true true false false) fun G => (bif G then oB (jT N c) fun y => (bif y then oB (jxL N b 1) fun t => (some t) else some false) else some false) else bif decide (a = 3) then oB (jxz N a c b d e f true true true false) fun z => (bif z then oB (jT N c) fun K => (bif K then oB (jxL N b 4) fun U => (bif U then bif decide ((1 : Int) < (b.length : Int)) then bif decide (e = 0) then oB (jJ N d 0 5) fun S => (some S) else (some false) else (some false) else some false) else some false) else some false) else bif decide (a = 4) then oB (jxz N a c b d e f true true true false) fun P => (bif P then oB (jT N c) fun D => (bif D then oB (jxL N b 1) fun W => (bif W then bif decide (e = 0) then oB (jJ N d 1 2) fun O => (some O) else (some false) else some false) else some false) else some false) else bif decide (a = 5) then oB (jxz N a c b d e f true true false false) fun E => (bif E then oB (jT N c) fun u => (bif u then bif decide ((b.length : Int) = 1) then oB (idx b 0) fun C => (oB (jyk N C) fun V => bif V then oB (idx b 0) fun T => (oB (jT N T) fun v => some (!v)) else some false) else (some false) else some false) else some false) else bif decide (a = 6) then oB (jxz N a c b d e f true false true false) fun X => (bif X then oB (jT N c) fun Q => (bif Q then oB (jJ N d 0 999999999) fun H => (bif H then oB (jJ N e d 999999999) fun w => (some w) else some false) else some false) else some false) else meet (fun (I : Int × Int × Bool × Int × Z0 × (List Z0) × Int × Int × (List DQ)) => match I with | (k, p, x, m, j, n, i, h, l) => bif x then oB (jxz N m j n i h l false false false true) fun q => (bif q then oB (jJ N k 2 4) fun A => (some A) else some false) else bif decide (p = 9) then oB (jxz N m j n i h l false false false true) fun B => (bif B then some (decide (k = 2)) else some false) else bif decide (p = 10) then oB (jxz N m j n i h l false false true true) fun L => (bif L then bif decide (k = 1) then bif decide (h = 0) then oB (jJ N i 2 9) fun r => (some r) else (some false) else (some false) else some false) else some false) fun o => bif decide (a = 7) then o ((f.length : Int), a, true, a, c, b, d, e, f) else o ((f.length : Int), a, (decide (a = 8)), a, c, b, d, e, f))
theorem jBO (N : Nat) : mK 136 ⟨⟨[.agg [pI, pS, .pv (.sl .str), pI, pI, .pv (.sl .q)]], []⟩, ⟨[pB], []⟩, c6A (jyq N)⟩ :=
 mO (fC (jDV N) (fC (jgp N) (fC (jDs N) (fC (jcL N) (fC (jC1 N) ja))))) Tryz.func136 rfl N (.seq .no (.seq .no (.seq (.seq .no (.block (.seq .no (.cond .no (.seq .no (.cond .no (.seq .no (.cond .no (.seq .no (.cond .no (.seq .no (.cond .no (.seq .no (.cond .no (.meet jDP .no .no))))))))))))))) .no))) _
def jD7 : Sh := ⟨.dead :: pI :: .box 2 0 :: .dead :: .dead :: pI :: dz 23 [], [(2, false, [pI, pS, .pv (.sl .str), pI, pI, .pv (.sl .q)])]⟩
def jxO (N : Nat) : (D : Nat) → Int → Z0 → (List Z0) → Int → Int → (List DQ) → Int → Z7
 | 0, _, _, _, _, _, _, _ => none
 | D + 1, q, q2, q3, q4, q5, q6, deep =>
 bif decide (deep = 0) then
 some false
 else
 oB (jyq N q q2 q3 q4 q5 q6) fun r =>
 bif !r then
 some false
 else
 iter (fun go (g : Int × Int × Int × Z0 × (List Z0) × Int × Int × (List DQ)) =>
 match g with
 | (deep2, i, q7, q8, q9, q10, q11, q12) =>
 bif decide (i < (q12.length : Int)) then
 oB (idx q12 i) fun e =>
 (if fits (deep2 - 1) then oB (jxO N D e.kind e.field e.words e.lo e.hi e.kids (deep2 - 1)) fun r2 =>
 (bif !r2 then
 some false
 else
 if fits (i + 1) then go (deep2, (i + 1), q7, q8, q9, q10, q11, q12) else none) else none)
 else
 some true) N (deep, 0, q, q2, q3, q4, q5, q6)
def jx9 (N D : Nat) : Model := ⟨⟨[.agg [pI, pS, .pv (.sl .str), pI, pI, .pv (.sl .q)], pI], []⟩, ⟨[pB], []⟩, c7A (jxO N D)⟩
theorem jBT (N D : Nat) (ih : mK 89 (jx9 N D)) : mK 89 (jx9 N (D + 1)) :=
 mO (fC ih (fC (jBO N) ja)) Tryz.func89 rfl N (.seq .no (.seq .no (.seq (.seq .no (.block (.loop jD7 .no))) .no))) (jx9 N (D + 1))
theorem jzV (N : Nat) : ∀ D, mK 89 (jx9 N D)
 | 0 => modelOk_none ⟨_, Tryz.func89, by decide, by kernel_rfl⟩ _ (fun a => rfl)
 | D + 1 => jBT N D (jzV N D)
def s_l11Ok_m (N : Nat) (c : Int) (e : List UInt8) (h : List Z0) (b : Int) (f : Int) (a : List DQ) : Z7 :=
 (oB (jxO N N c e h b f a 4) fun d => some d)
theorem jBX (N : Nat) : mK 49 ⟨⟨[.agg [pI, pS, .pv (.sl .str), pI, pI, .pv (.sl .q)]], []⟩, ⟨[pB], []⟩, c6A (s_l11Ok_m N)⟩ :=
 mO (fC (jzV N N) ja) Tryz.func49 rfl N .no _
def jA0 : Sh := ⟨.dead :: pI :: .box 2 0 :: .dead :: .box 4 0 :: pI :: dz 21 [], [(2, false, [.pv Y2, .pv Y4]), (4, false, [pI, .nils, .nils])]⟩
def jyv (N : Nat) (e : List Z2) (m : List Z1) (i : Int) : Option Z2 :=
 (iter (fun j (d, a, b, k, f) => bif decide (a < (b.length : Int)) then oB (idx b a) fun l => (bif decide (l.1 = d) then oB (idx b a) fun c => (some (c.1, c.2.1, c.2.2)) else if fits (a + 1) then j (d, (a + 1), b, k, f) else none) else some (0, ([] : Z16), ([] : Z8))) N (i, (0 : Int), e, m, (0 : Int)))
theorem jDn (N : Nat) : mK 50 ⟨⟨[.agg [.pv Y2, .pv Y4], pI], []⟩, ⟨[.agg [pI, .pv Y18, .pv Y14]], []⟩, c3A (jyv N)⟩ :=
 mO ja Tryz.func50 rfl N (.seq .no (.seq (.seq .no (.block (.loop jA0 .no))) .no)) _
def jyC (N : Nat) (b : List Z0) (c : List Z4) (a : List UInt8) : Option (Z0) :=
 (oB (jcw N b c) fun f => bif !f then some ([] : List UInt8) else oB (jT N a) fun e => bif !e then some ([] : List UInt8) else oB (ja5 N b c a) fun d => bif decide ((d.length : Int) = 0) then some ([] : List UInt8) else oB (idx d 0) fun h => some h.1)
theorem jCy (N : Nat) : mK 91 ⟨⟨[.agg [.pv (.sl .str), .pv Y15], pS], []⟩, ⟨[pS], []⟩, c3A (jyC N)⟩ :=
 mO (fC (jtf N) (fC (jgp N) (fC (jiO N) ja))) Tryz.func91 rfl N .no _
def jtm : Sh := ⟨.dead :: pS :: pS :: .box 3 0 :: dz 3 (pI :: dz 31 []), [(3, false, [.pv Y2, .pv Y4])]⟩
def s_l7Posts_m (N : Nat) (i : List Z2) (o : List Z1) (n : List UInt8) (l : List UInt8) : Option (Z12) :=
 (iter (fun e (d, c, a, f, b) => bif decide (a < (b.length : Int)) then oB (idx b a) fun m => (bif decide (m.1 = d) then oB (idx b a) fun k => (bif decide (k.2.1 = c) then oB (idx b a) fun h => (some h.2.2) else if fits (a + 1) then e (d, c, (a + 1), f, b) else none) else if fits (a + 1) then e (d, c, (a + 1), f, b) else none) else some ([] : Z3)) N (n, l, (0 : Int), i, o))
theorem jh6 (N : Nat) : mK 141 ⟨⟨[.agg [.pv Y2, .pv Y4], pS, pS], []⟩, ⟨[.pv Y11], []⟩, c4A (s_l7Posts_m N)⟩ :=
 mO ja Tryz.func141 rfl N (.seq .no (.seq (.seq .no (.block (.loop jtm .no))) .no)) _
def jst : Sh := ⟨dz 3 (pI :: dz 5 (.pv Y11 :: pI :: dz 22 [])), []⟩
def s_l12At_m (N : Nat) (d : List Z2) (n : List Z1) (m : List UInt8) (j : List UInt8) (f : Int) : Option ((List Int)) :=
 (oB (s_l7Posts_m N d n m j) fun h => iter (fun k (c, b, a) => bif decide (a < (b.length : Int)) then oB (idx b a) fun l => (bif decide (l.1 = c) then oB (idx b a) fun i => (some i.2) else if fits (a + 1) then k (c, b, (a + 1)) else none) else some ([] : List Int)) N (f, h, (0 : Int)))
theorem jn1 (N : Nat) : mK 137 ⟨⟨[.agg [.pv Y2, .pv Y4], pS, pS, pI], []⟩, ⟨[.pv Y20], []⟩, c5A (s_l12At_m N)⟩ :=
 mO (fC (jh6 N) ja) Tryz.func137 rfl N (.seq .no (.seq .no (.seq (.seq .no (.block (.loop jst .no))) .no))) _
def jqS : Sh := ⟨.dead :: pS :: pI :: .box 3 0 :: dz 3 (pI :: pI :: dz 55 []), [(3, false, [.pv Y2, .pv Y4])]⟩
def jm7 : Sh := ⟨.dead :: pS :: pI :: .box 3 0 :: dz 3 (pI :: pI :: pI :: dz 54 []), [(3, false, [.pv Y2, .pv Y4])]⟩
def s_l7Long_m (N : Nat) (p : List Z2) (w : List Z1) (v : List UInt8) (q : Int) : Z11 :=
 (iter (fun m (A, B, l, k, u, n) => bif decide (k < (n.length : Int)) then iter (fun j (e, d, f, a, c, h, b) => oB (idx b a) fun z => bif decide (c < (z.2.2.length : Int)) then oB (idx b a) fun y => (bif decide (y.1 = e) then oB (idx b a) fun x => (oB (idx x.2.2 c) fun t => bif decide (t.1 = d) then oB (idx b a) fun r => (oB (idx r.2.2 c) fun o => if fits (f + (o.2.length : Int)) then if fits (c + 1) then j (e, d, (f + (o.2.length : Int)), a, (c + 1), h, b) else none else none) else if fits (c + 1) then j (e, d, f, a, (c + 1), h, b) else none) else if fits (a + 1) then m (e, d, f, (a + 1), h, b) else none) else if fits (a + 1) then m (e, d, f, (a + 1), h, b) else none) N (A, B, l, k, (0 : Int), u, n) else some l) N (v, q, (0 : Int), (0 : Int), p, w))
theorem jrY (N : Nat) : mK 139 ⟨⟨[.agg [.pv Y2, .pv Y4], pS, pI], []⟩, ⟨[pI], []⟩, c4A (s_l7Long_m N)⟩ :=
 mO ja Tryz.func139 rfl N (.seq .no (.seq .no (.seq (.seq .no (.block (.loop jqS (.seq .no (.seq (.block (.seq .no (.block (.loop jm7 .no)))) .no))))) .no))) _
def jsB : Sh := ⟨.dead :: pS :: .box 2 0 :: .dead :: .dead :: pI :: pI :: dz 43 [], [(2, false, [.pv Y2, .pv Y4])]⟩
def jnl : Sh := ⟨.dead :: pS :: .box 2 0 :: .dead :: .dead :: pI :: pI :: pI :: dz 42 [], [(2, false, [.pv Y2, .pv Y4])]⟩
def s_l12Total_m (N : Nat) (n : List Z2) (r : List Z1) (q : List UInt8) : Z11 :=
 (iter (fun l (w, k, j, p, m) => bif decide (j < (m.length : Int)) then iter (fun o (d, c, a, e, h, b) => oB (idx b a) fun v => bif decide (e < (v.2.2.length : Int)) then oB (idx b a) fun u => (bif decide (u.1 = d) then oB (idx b a) fun t => (oB (idx t.2.2 e) fun i => if fits (c + (i.2.length : Int)) then if fits (e + 1) then o (d, (c + (i.2.length : Int)), a, (e + 1), h, b) else none else none) else if fits (a + 1) then l (d, c, (a + 1), h, b) else none) else if fits (a + 1) then l (d, c, (a + 1), h, b) else none) N (w, k, j, (0 : Int), p, m) else some k) N (q, (0 : Int), (0 : Int), n, r))
theorem jn2 (N : Nat) : mK 140 ⟨⟨[.agg [.pv Y2, .pv Y4], pS], []⟩, ⟨[pI], []⟩, c3A (s_l12Total_m N)⟩ :=
 mO ja Tryz.func140 rfl N (.seq .no (.seq .no (.seq (.seq .no (.block (.loop jsB (.seq .no (.seq (.block (.seq .no (.block (.loop jnl .no)))) .no))))) .no))) _
def jsx : Sh := ⟨pI :: pI :: dz 3 (pI :: dz 13 []), []⟩
def jbz (N : Nat) (h : Int) (f : Int) : Z11 :=
 (iter (fun e (a, c, b) => bif decide ((0 : Int) < a) then if fits (a * 2) then bif decide ((a * 2) ≤ c) then if fits (a * 2) then if fits (b + 1) then e ((a * 2), c, (b + 1)) else none else none else (some b) else none else some b) N (h, f, (0 : Int)))
theorem jkd (N : Nat) : mK 191 ⟨⟨[pI, pI], []⟩, ⟨[pI], []⟩, c2A (jbz N)⟩ :=
 mO ja Tryz.func191 rfl N (.seq .no (.seq .no (.seq (.block (.loop jsx .no)) .no))) _
def jkC : Sh := ⟨pI :: pI :: dz 15 [], []⟩
def jaY (N : Nat) : (D : Nat) → Int → Int → Z11
 | 0, _, _ => none
 | D + 1, a, b =>
 meet (fun (g : Int × Int) =>
 match g with
 | (a2, b2) =>
 bif decide (b2 = 0) then
 some a2
 else
 if b2 ≠ 0 then
 oB (jaY N D b2 (a2.tmod b2)) fun r =>
 (some r)
 else none) fun J =>
 bif decide (a < 0) then
 if fits (0 - a) then J ((0 - a), b) else none
 else
 J (a, b)
def jcQ (N D : Nat) : Model := ⟨⟨[pI, pI], []⟩, ⟨[pI], []⟩, c2A (jaY N D)⟩
theorem jlI (N D : Nat) (ih : mK 234 (jcQ N D)) : mK 234 (jcQ N (D + 1)) :=
 mO (fC ih ja) Tryz.func234 rfl N (.seq .no (.meet jkC .no .no)) (jcQ N (D + 1))
theorem jeF (N : Nat) : ∀ D, mK 234 (jcQ N D)
 | 0 => modelOk_none ⟨_, Tryz.func234, by decide, by kernel_rfl⟩ _ (fun a => rfl)
 | D + 1 => jlI N D (jeF N D)
def jlg : Sh := ⟨pI :: pI :: .dead :: .dead :: .box 4 0 :: dz 17 [], [(4, false, [pI, pI])]⟩
def jcf (N : Nat) (c : Int) (b : Int) : Option (Int × Int) :=
 (meet (fun (h : Int × Int × Int × Int) => match h with | (e, d, j, i) => oB (jaY N N e d) fun a => if a ≠ 0 then if fits (e.tdiv a) then if a ≠ 0 then if fits (d.tdiv a) then some ((e.tdiv a), (d.tdiv a)) else none else none else none else none) fun f => bif decide (b < 0) then if fits (0 - c) then if fits (0 - b) then f ((0 - c), (0 - b), 0, 0) else none else none else f (c, b, 0, 0))
theorem jn4 (N : Nat) : mK 190 ⟨⟨[pI, pI], []⟩, ⟨[.agg [pI, pI]], []⟩, c2A (jcf N)⟩ :=
 mO (fC (jeF N N) ja) Tryz.func190 rfl N (.seq .no (.meet jlg .no .no)) _
def jqT : Sh := ⟨pI :: .dead :: .dead :: pI :: pI :: dz 5 (.box 10 0 :: pI :: dz 21 []), [(10, false, [pI, pI])]⟩
def s_l12Term_m (N : Nat) (k : Int) (c : Int) (d : Int) (a : Int) (j : Int) : Option (Int × Int) :=
 (meet (fun (l : Int × Int × Int × Int × Int × Int) => match l with | (b, n, m, h, o, p) => oB (jbz N m n) fun e => if fits (1 + e) then if fits ((1 + e) * 22) then if fits (((1 + e) * 22) * b) then if fits (10 * b) then if fits ((10 * b) + 3) then if fits (((10 * b) + 3) + h) then oB (jcf N (((1 + e) * 22) * b) (((10 * b) + 3) + h)) fun f => (some (f.1, f.2)) else none else none else none else none else none else none) fun i => bif decide ((0 : Int) < d) then if fits (c * a) then if fits ((c * a) * 9) then if d ≠ 0 then if fits (((c * a) * 9).tdiv d) then i (k, a, j, (((c * a) * 9).tdiv d), 0, 0) else none else none else none else none else i (k, a, j, 1, 0, 0))
theorem jtF (N : Nat) : mK 138 ⟨⟨[pI, pI, pI, pI, pI], []⟩, ⟨[.agg [pI, pI]], []⟩, c5A (s_l12Term_m N)⟩ :=
 mO (fC (jkd N) (fC (jn4 N) ja)) Tryz.func138 rfl N (.seq .no (.seq .no (.meet jqT .no .no))) _
def s_l12Points_m (N : Nat) (b : List Z2) (d : List Z1) (c : List UInt8) (h : List UInt8) (e : Int) : Z11 :=
 (oB (s_l12At_m N b d c h e) fun f => bif decide ((f.length : Int) = 0) then some 0 else oB (s_l7Long_m N b d c e) fun i => oB (s_l12Total_m N b d c) fun k => oB (s_l7Posts_m N b d c h) fun j => oB (s_l12Term_m N (f.length : Int) i k (b.length : Int) (j.length : Int)) fun a => if fits (a.1 * 1000) then if a.2 ≠ 0 then if fits ((a.1 * 1000).tdiv a.2) then some ((a.1 * 1000).tdiv a.2) else none else none else none)
theorem jrZ (N : Nat) : mK 90 ⟨⟨[.agg [.pv Y2, .pv Y4], pS, pS, pI], []⟩, ⟨[pI], []⟩, c5A (s_l12Points_m N)⟩ :=
 mO (fC (jn1 N) (fC (jrY N) (fC (jn2 N) (fC (jh6 N) (fC (jtF N) ja))))) Tryz.func90 rfl N .no _
def jAu : Sh := ⟨.pv (.sl .str) :: pS :: dz 3 (pS :: pI :: dz 18 []), []⟩
def jxS (N : Nat) (l : List Z0) (o : List UInt8) : Option (Z0) :=
 (iter (fun m (f, a, c, b) => bif decide (b < (f.length : Int)) then meet (fun (d : (List Z0) × Z0 × Z0 × Int) => match d with | (k, n, h, e) => oB (idx k e) fun j => if h.length + j.length ≤ 9223372036854775807 then if fits (e + 1) then m (k, n, (h ++ j), (e + 1)) else none else none) fun i => (bif decide ((0 : Int) < b) then if c.length + a.length ≤ 9223372036854775807 then i (f, a, (c ++ a), b) else none else i (f, a, c, b)) else some c) N (l, o, ([] : List UInt8), (0 : Int)))
theorem jAy (N : Nat) : mK 145 ⟨⟨[.pv (.sl .str), pS], []⟩, ⟨[pS], []⟩, c2A (jxS N)⟩ :=
 mO ja Tryz.func145 rfl N (.seq .no (.seq .no (.seq (.seq .no (.block (.loop jAu (.seq .no (.seq (.block (.meet jAu .no .no)) .no))))) .no))) _
def jB2 : Sh := ⟨dz 3 (pI :: .dead :: .box 5 0 :: .box 6 0 :: .dead :: .dead :: .own 600009 Y20 54 true :: .own 600010 Y16 186 true :: pI :: dz 65 []), [(5, false, [.pv Y2, .pv Y4]), (6, false, [pI, pS, .pv (.sl .str), pI, pI, .pv (.sl .q)])]⟩
def jCf : Sh := ⟨dz 3 (pI :: .dead :: .box 5 0 :: .box 6 0 :: .dead :: .dead :: .own 600009 Y20 54 true :: .own 600010 Y16 186 true :: pI :: pI :: .pv Y20 :: .own 600014 tI 3 true :: pI :: dz 61 []), [(5, false, [.pv Y2, .pv Y4]), (6, false, [pI, pS, .pv (.sl .str), pI, pI, .pv (.sl .q)])]⟩
def jyf (N : Nat) (c : List Z0) (c2 : List Z4) (s : List Z2) (s2 : List Z1) (q : Int) (q2 : List UInt8) (q3 : List Z0) (q4 : Int) (q5 : Int) (q6 : List DQ) (id : Int) : Option (Z18) :=
 (oB (jxS N q3 ([32] : List UInt8)) fun r => oB (ja5 N c c2 r) fun r2 => iter (fun go (id2, out, terms, i, s3, s4, q7, q8, q9, q10, q11, q12) => bif decide (i < (terms.length : Int)) then oB (idx terms i) fun e => (oB (idx terms 0) fun e2 => if fits (e.2 - e2.2) then if fits ((e.2 - e2.2) - i) then oB (idx terms i) fun e3 => (oB (s_l12At_m N s3 s4 q8 e3.1 id2) fun r3 => iter (fun go2 (id3, out2, terms2, i2, shift, at0, list, k, s5, s6, q13, q14, q15, q16, q17, q18) => bif decide (k < (at0.length : Int)) then oB (idx at0 k) fun e4 => (bif decide (shift ≤ e4) then oB (idx at0 k) fun e5 => (if fits (e5 - shift) then if room list.length ([(e5 - shift)] : List Int).length 8 then if fits (k + 1) then go2 (id3, out2, terms2, i2, shift, at0, (list ++ ([(e5 - shift)] : List Int)), (k + 1), s5, s6, q13, q14, q15, q16, q17, q18) else none else none else none) else if fits (k + 1) then go2 (id3, out2, terms2, i2, shift, at0, list, (k + 1), s5, s6, q13, q14, q15, q16, q17, q18) else none) else if room out2.length ([list] : List (List Int)).length 24 then if fits (i2 + 1) then go (id3, (out2 ++ ([list] : List (List Int))), terms2, (i2 + 1), s5, s6, q13, q14, q15, q16, q17, q18) else none else none) N (id2, out, terms, i, ((e.2 - e2.2) - i), r3, ([] : List Int), (0 : Int), s3, s4, q7, q8, q9, q10, q11, q12)) else none else none) else some out) N (id, ([] : List (List Int)), r2, (0 : Int), s, s2, q, q2, q3, q4, q5, q6))
theorem jCm (N : Nat) : mK 143 ⟨⟨[.agg [.pv (.sl .str), .pv Y15], .agg [.pv Y2, .pv Y4], .agg [pI, pS, .pv (.sl .str), pI, pI, .pv (.sl .q)], pI], []⟩, ⟨[.own 1 Y20 54 true], []⟩, c11A (jyf N)⟩ :=
 mO (fC (jAy N) (fC (jiO N) (fC (jn1 N) ja))) Tryz.func143 rfl N (.seq .no (.seq .no (.seq .no (.seq (.seq .no (.block (.loop jB2 (.seq .no (.seq (.block (.seq .no (.seq .no (.seq .no (.seq (.seq .no (.block (.loop jCf .no))) .no))))) .no))))) .no)))) _
def jCI : Sh := ⟨.pv Y20 :: .dead :: .dead :: pI :: dz 31 [], []⟩
def jx3 (N : Nat) (h : List Int) : Z7 :=
 (iter (fun c (b, a) => bif decide (a < (b.length : Int)) then oB (idx b a) fun j => (oB (jJ N j 0 999999999) fun f => bif !f then some false else bif decide ((0 : Int) < a) then oB (idx b a) fun i => (if fits (a - 1) then oB (idx b (a - 1)) fun d => (bif decide (i ≤ d) then some false else if fits (a + 1) then c (b, (a + 1)) else none) else none) else if fits (a + 1) then c (b, (a + 1)) else none) else some (decide ((b.length : Int) ≤ 60))) N (h, (0 : Int)))
theorem jC9 (N : Nat) : mK 194 ⟨⟨[.pv Y20], []⟩, ⟨[pB], []⟩, c1A (jx3 N)⟩ :=
 mO (fC (jcL N) ja) Tryz.func194 rfl N (.seq .no (.seq (.seq .no (.block (.loop jCI .no))) .no)) _
def jBI : Sh := ⟨.pv (.sl Y20) :: pI :: pI :: pI :: pI :: dz 6 (pI :: dz 46 []), []⟩
def jxJ (N : Nat) : (D : Nat) → Z18 → Int → Int → Int → Int → Z7
 | 0, _, _, _, _, _ => none
 | D + 1, lists, k, last, start, slop =>
 bif decide (k = (lists.length : Int)) then
 if fits (last - start) then if fits ((lists.length : Int) - 1) then if fits ((last - start) - ((lists.length : Int) - 1)) then some (decide (((last - start) - ((lists.length : Int) - 1)) ≤ slop)) else none else none else none
 else
 iter (fun go (g : Z18 × Int × Int × Int × Int × Int) =>
 match g with
 | (lists2, k2, last2, start2, slop2, i) =>
 oB (idx lists2 k2) fun e =>
 bif decide (i < (e.length : Int)) then
 oB (idx lists2 k2) fun e2 =>
 (oB (idx e2 i) fun e3 =>
 bif decide (last2 < e3) then
 if fits (k2 + 1) then oB (idx lists2 k2) fun e4 =>
 (oB (idx e4 i) fun e5 =>
 oB (jxJ N D lists2 (k2 + 1) e5 start2 slop2) fun r =>
 bif r then
 some true
 else
 if fits (i + 1) then go (lists2, k2, last2, start2, slop2, (i + 1)) else none) else none
 else
 if fits (i + 1) then go (lists2, k2, last2, start2, slop2, (i + 1)) else none)
 else
 some false) N (lists, k, last, start, slop, 0)
def jyj (N D : Nat) : Model := ⟨⟨[.pv (.sl Y20), pI, pI, pI, pI], []⟩, ⟨[pB], []⟩, c5A (jxJ N D)⟩
theorem jD8 (N D : Nat) (ih : mK 195 (jyj N D)) : mK 195 (jyj N (D + 1)) :=
 mO (fC ih ja) Tryz.func195 rfl N (.seq .no (.seq .no (.seq (.seq .no (.block (.loop jBI .no))) .no))) (jyj N (D + 1))
theorem jzt (N : Nat) : ∀ D, mK 195 (jyj N D)
 | 0 => modelOk_none ⟨_, Tryz.func195, by decide, by kernel_rfl⟩ _ (fun a => rfl)
 | D + 1 => jD8 N D (jzt N D)
def jCF : Sh := ⟨.pv (.sl Y20) :: pI :: dz 3 (.own 600005 tI 3 true :: pI :: dz 56 []), []⟩
def jBd : Sh := ⟨.pv (.sl Y20) :: pI :: dz 3 (.own 600005 tI 3 true :: .dead :: pI :: dz 55 []), []⟩
def jyb (N : Nat) (x : List (List Int)) (r : Int) : Option ((List Int)) :=
 (iter (fun y (c, i, l, e) => bif decide (e < (c.length : Int)) then oB (idx c e) fun A => (oB (jx3 N A) fun v => bif !v then some ([] : List Int) else if fits (e + 1) then y (c, i, l, (e + 1)) else none) else oB (jJ N (c.length : Int) 1 6) fun m => bif !m then some ([] : List Int) else oB (jJ N i 0 5) fun t => bif !t then some ([] : List Int) else iter (fun k (b, h, d, a) => oB (idx b 0) fun w => bif decide (a < (w.length : Int)) then oB (idx b 0) fun u => (oB (idx u a) fun p => oB (idx b 0) fun n => oB (idx n a) fun z => oB (jxJ N N b 1 p z h) fun o => bif o then oB (idx b 0) fun q => (oB (idx q a) fun j => if room d.length ([j] : List Int).length 8 then if fits (a + 1) then k (b, h, (d ++ ([j] : List Int)), (a + 1)) else none else none) else if fits (a + 1) then k (b, h, d, (a + 1)) else none) else some d) N (c, i, l, (0 : Int))) N (x, r, ([] : List Int), (0 : Int)))
theorem jAW (N : Nat) : mK 144 ⟨⟨[.pv (.sl Y20), pI], []⟩, ⟨[.own 1 tI 3 true], []⟩, c2A (jyb N)⟩ :=
 mO (fC (jC9 N) (fC (jcL N) (fC (jzt N N) ja))) Tryz.func144 rfl N (.seq .no (.seq .no (.seq (.seq .no (.block (.loop jCF .no))) (.seq .no (.seq (.seq .no (.block (.loop jBd .no))) .no))))) _
def jCQ : Sh := ⟨dz 3 (pI :: .dead :: .box 5 0 :: .box 6 0 :: dz 3 (pI :: pI :: .own 600012 Y16 186 true :: pI :: dz 41 [])), [(5, false, [.pv Y2, .pv Y4]), (6, false, [pI, pS, .pv (.sl .str), pI, pI, .pv (.sl .q)])]⟩
def jCS : Sh := ⟨dz 3 (pI :: .box 4 0 :: .box 5 0 :: .box 6 0 :: dz 3 (pI :: dz 44 [])), [(4, false, [.pv (.sl .str), .pv Y15]), (5, false, [.pv Y2, .pv Y4]), (6, false, [pI, pS, .pv (.sl .str), pI, pI, .pv (.sl .q)])]⟩
def jx2 (N : Nat) (l : List Z0) (f : List Z4) (d : List Z2) (o : List Z1) (p : Int) (e : List UInt8) (i : List Z0) (b : Int) (h : Int) (j : List DQ) (m : Int) : Z11 :=
 (oB (jyf N l f d o p e i b h j m) fun z => bif decide ((z.length : Int) = 0) then some 0 else oB (jyb N z b) fun v => meet (fun (k : Int × Int × (List Z0) × (List Z4) × (List Z2) × (List Z1) × Int × Z0 × (List Z0) × Int × Int × (List DQ)) => match k with | (aa, R, L, K, U, O, V, G, A, P, D, T) => oB (jxS N A ([32] : List UInt8)) fun H => oB (ja5 N L K H) fun C => iter (fun X (y, n, c, q, a, w, r, S, x, I, W, E, B) => bif decide (a < (q.length : Int)) then oB (idx q a) fun Q => (oB (s_l12Points_m N w r x Q.1 y) fun u => if fits (c + u) then if fits (a + 1) then X (y, n, (c + u), q, (a + 1), w, r, S, x, I, W, E, B) else none else none) else if fits (c * n) then some (c * n) else none) N (aa, R, (0 : Int), C, (0 : Int), U, O, V, G, A, P, D, T)) fun t => bif decide ((3 : Int) < (v.length : Int)) then t (m, 3, l, f, d, o, p, e, i, b, h, j) else t (m, (v.length : Int), l, f, d, o, p, e, i, b, h, j))
theorem jAL (N : Nat) : mK 92 ⟨⟨[.agg [.pv (.sl .str), .pv Y15], .agg [.pv Y2, .pv Y4], .agg [pI, pS, .pv (.sl .str), pI, pI, .pv (.sl .q)], pI], []⟩, ⟨[pI], []⟩, c11A (jx2 N)⟩ :=
 mO (fC (jCm N) (fC (jAW N) (fC (jAy N) (fC (jiO N) (fC (jrZ N) ja))))) Tryz.func92 rfl N (.seq .no (.seq .no (.seq .no (.seq .no (.meet jCS .no (.seq .no (.seq .no (.seq (.seq .no (.block (.loop jCQ .no))) .no)))))))) _
def s_l5Min_m (N : Nat) (a : Int) (b : Int) : Z11 :=
 (bif decide (a < b) then some a else some b)
theorem jDQ (N : Nat) : mK 81 ⟨⟨[pI, pI], []⟩, ⟨[pI], []⟩, c2A (s_l5Min_m N)⟩ :=
 mO ja Tryz.func81 rfl N .no _
def jCw : Sh := ⟨pS :: pS :: dz 3 (.mtk 600005 tI 3 true :: pI :: dz 74 []), []⟩
def jDJ : Sh := ⟨pS :: pS :: dz 3 (.mtk 600005 tI 3 true :: .dead :: pI :: dz 73 []), []⟩
def jDM : Sh := ⟨pS :: pS :: dz 3 (.mtk 600005 tI 3 true :: .dead :: pI :: pI :: pI :: dz 71 []), []⟩
def jBZ : Sh := ⟨pS :: pS :: dz 3 (.mtk 600005 tI 3 true :: .dead :: pI :: .dead :: pI :: pI :: dz 70 []), []⟩
def s_l5Far_m (N : Nat) (B : List UInt8) (d : List UInt8) : Z11 :=
 (if fits ((d.length : Int) + 1) then if ((d.length : Int) + 1) = ((d.length : Int) + 1) ∧ 0 ≤ ((d.length : Int) + 1) ∧ ((d.length : Int) + 1) * 8 ≤ 140737488355328 ∧ ((d.length : Int) + 1) ≤ 140737488355328 then iter (fun P (u, q, l, c) => bif decide (c ≤ (q.length : Int)) then if 0 ≤ c ∧ c < (l.length : Int) then oB (l[c.toNat]?) fun Q => (if fits (c + 1) then P (u, q, (l.set c.toNat c), (c + 1)) else none) else none else iter (fun I (r, j, e, k) => bif decide (k < (r.length : Int)) then if 0 ≤ (0 : Int) ∧ (0 : Int) < (e.length : Int) then oB (e[(0 : Int).toNat]?) fun O => (if fits (k + 1) then if 0 ≤ (0 : Int) ∧ (0 : Int) < (e.length : Int) then oB (e[(0 : Int).toNat]?) fun S => (iter (fun K (n, h, p, i, o, m) => bif decide (m < (h.length : Int)) then meet (fun (f : Z19) => match f with | (y, H, b, L, a, x) => if fits (a + 1) then if 0 ≤ (a + 1) ∧ (a + 1) < (b.length : Int) then oB (b[(a + 1).toNat]?) fun w => (if fits (a + 1) then if 0 ≤ a ∧ a < (b.length : Int) then oB (b[a.toNat]?) fun E => (if fits (a + 1) then if 0 ≤ (a + 1) ∧ (a + 1) < (b.length : Int) then oB (b[(a + 1).toNat]?) fun z => (oB (s_l5Min_m N E z) fun v => if fits (v + 1) then oB (s_l5Min_m N x (v + 1)) fun C => (if 0 ≤ (a + 1) ∧ (a + 1) < (b.length : Int) then oB (b[(a + 1).toNat]?) fun R => (if fits (a + 1) then K (y, H, (b.set (a + 1).toNat C), L, w, (a + 1)) else none) else none) else none) else none else none) else none else none) else none else none) fun t => (oB (idx n i) fun D => oB (idx h m) fun A => bif !decide ((D.toNat : Int) = (A.toNat : Int)) then if fits (o + 1) then t (n, h, p, i, m, (o + 1)) else none else t (n, h, p, i, m, o)) else if fits (i + 1) then I (n, h, p, (i + 1)) else none) N (r, j, (e.set (0 : Int).toNat (k + 1)), k, O, (0 : Int))) else none else none) else none else if 0 ≤ (j.length : Int) ∧ (j.length : Int) < (e.length : Int) then oB (e[(j.length : Int).toNat]?) fun G => (some G) else none) N (u, q, l, (0 : Int))) N (B, d, (List.replicate ((d.length : Int) + 1).toNat 0), (0 : Int)) else none else none)
theorem jBt (N : Nat) : mK 146 ⟨⟨[pS, pS], []⟩, ⟨[pI], []⟩, c2A (s_l5Far_m N)⟩ :=
 mO (fC (jDQ N) ja) Tryz.func146 rfl N (.seq .no (.seq .no (.seq (.seq .no (.block (.loop jCw .no))) (.seq (.seq .no (.block (.loop jDJ (.seq .no (.seq (.block (.seq .no (.seq .no (.seq .no (.block (.loop jDM (.seq .no (.seq (.block (.seq .no (.meet jBZ .no .no))) .no)))))))) .no))))) .no)))) _ (wr := [14])
def jC5 : Sh := ⟨.dead :: .dead :: pI :: .box 3 0 :: .box 4 0 :: .dead :: .dead :: pI :: pI :: dz 49 [], [(3, false, [.pv Y2, .pv Y4]), (4, false, [pI, pS, .pv (.sl .str), pI, pI, .pv (.sl .q)])]⟩
def jx5 (N : Nat) (r : List Z2) (w : List Z1) (x : Int) (v : List UInt8) (B : List Z0) (y : Int) (A : Int) (q : List DQ) (u : Int) : Z11 :=
 (iter (fun o (f, h, a, e, b, n, c, j, i, l, m) => bif decide (a < (b.length : Int)) then oB (idx b a) fun p => (oB (idx j 0) fun z => oB (s_l5Far_m N p.2.1 z) fun d => bif !decide (p.1 = c) then if fits (a + 1) then o (f, h, (a + 1), e, b, n, c, j, i, l, m) else none else bif decide (i < d) then if fits (a + 1) then o (f, h, (a + 1), e, b, n, c, j, i, l, m) else none else oB (s_l12Points_m N e b c p.2.1 f) fun k => if fits (3 - d) then if fits (k * (3 - d)) then if 3 ≠ 0 then if fits ((k * (3 - d)).tdiv 3) then bif decide (h < ((k * (3 - d)).tdiv 3)) then if fits (a + 1) then o (f, ((k * (3 - d)).tdiv 3), (a + 1), e, b, n, c, j, i, l, m) else none else (if fits (a + 1) then o (f, h, (a + 1), e, b, n, c, j, i, l, m) else none) else none else none else none else none) else some h) N (u, (0 : Int), (0 : Int), r, w, x, v, B, y, A, q))
theorem jCb (N : Nat) : mK 93 ⟨⟨[.agg [.pv Y2, .pv Y4], .agg [pI, pS, .pv (.sl .str), pI, pI, .pv (.sl .q)], pI], []⟩, ⟨[pI], []⟩, c9A (jx5 N)⟩ :=
 mO (fC (jBt N) (fC (jrZ N) ja)) Tryz.func93 rfl N (.seq .no (.seq .no (.seq (.seq .no (.block (.loop jC5 .no))) .no))) _
def jxB (N : Nat) : (D : Nat) → Z0 → Z0 → Z7
 | 0, _, _ => none
 | D + 1, p, s =>
 bif decide (p = ([] : List UInt8)) then
 some (decide (s = ([] : List UInt8)))
 else
 oB (idx p 0) fun c =>
 bif decide ((c.toNat : Int) = 42) then
 oB (cut p 1 (p.length : Int)) fun y =>
 (oB (jxB N D y s) fun r =>
 bif r then
 some true
 else
 bif !decide (s = ([] : List UInt8)) then
 oB (cut s 1 (s.length : Int)) fun y2 =>
 (oB (jxB N D p y2) fun r2 =>
 some r2)
 else
 some false)
 else
 bif !decide (s = ([] : List UInt8)) then
 oB (idx p 0) fun c2 =>
 (bif decide ((c2.toNat : Int) = 63) then
 oB (cut p 1 (p.length : Int)) fun y3 =>
 (oB (cut s 1 (s.length : Int)) fun y4 =>
 oB (jxB N D y3 y4) fun r3 =>
 some r3)
 else
 oB (idx p 0) fun c3 =>
 oB (idx s 0) fun c4 =>
 bif decide ((c3.toNat : Int) = (c4.toNat : Int)) then
 oB (cut p 1 (p.length : Int)) fun y5 =>
 (oB (cut s 1 (s.length : Int)) fun y6 =>
 oB (jxB N D y5 y6) fun r4 =>
 some r4)
 else
 some false)
 else
 some false
def jyr (N D : Nat) : Model := ⟨⟨[pS, pS], []⟩, ⟨[pB], []⟩, c2A (jxB N D)⟩
theorem jDg (N D : Nat) (ih : mK 147 (jyr N D)) : mK 147 (jyr N (D + 1)) :=
 mO (fC ih ja) Tryz.func147 rfl N .no (jyr N (D + 1))
theorem jzM (N : Nat) : ∀ D, mK 147 (jyr N D)
 | 0 => modelOk_none ⟨_, Tryz.func147, by decide, by kernel_rfl⟩ _ (fun a => rfl)
 | D + 1 => jDg N D (jzM N D)
def jBi : Sh := ⟨.dead :: .dead :: pI :: .box 3 0 :: .box 4 0 :: .dead :: .dead :: pI :: dz 38 [], [(3, false, [.pv Y2, .pv Y4]), (4, false, [pI, pS, .pv (.sl .str), pI, pI, .pv (.sl .q)])]⟩
def jyd (N : Nat) (o : List Z2) (u : List Z1) (v : Int) (t : List UInt8) (A : List Z0) (w : Int) (z : Int) (n : List DQ) (r : Int) : Z7 :=
 (iter (fun k (e, a, d, b, j, c, f, l, h, i) => bif decide (a < (b.length : Int)) then oB (idx b a) fun m => (bif decide (m.1 = c) then oB (idx f 0) fun y => (oB (jxB N N y m.2.1) fun x => bif x then oB (s_l12At_m N d b c m.2.1 e) fun p => (bif decide ((0 : Int) < (p.length : Int)) then some true else if fits (a + 1) then k (e, (a + 1), d, b, j, c, f, l, h, i) else none) else if fits (a + 1) then k (e, (a + 1), d, b, j, c, f, l, h, i) else none) else if fits (a + 1) then k (e, (a + 1), d, b, j, c, f, l, h, i) else none) else some false) N (r, (0 : Int), o, u, v, t, A, w, z, n))
theorem jCi (N : Nat) : mK 95 ⟨⟨[.agg [.pv Y2, .pv Y4], .agg [pI, pS, .pv (.sl .str), pI, pI, .pv (.sl .q)], pI], []⟩, ⟨[pB], []⟩, c9A (jyd N)⟩ :=
 mO (fC (jzM N N) (fC (jn1 N) ja)) Tryz.func95 rfl N (.seq .no (.seq (.seq .no (.block (.loop jBi .no))) .no)) _
def jyV (N : Nat) (a : Bool) : Z11 :=
 (bif a then some 100 else some 0)
theorem jCo (N : Nat) : mK 94 ⟨⟨[pB], []⟩, ⟨[pI], []⟩, c1A (jyV N)⟩ :=
 mO ja Tryz.func94 rfl N .no _
def jym (N : Nat) (i : Int) (k : Z16) (f : Z8) (d : List UInt8) : Z11 :=
 (iter (fun l (c, a, j, m, b) => bif decide (a < (b.length : Int)) then oB (idx b a) fun n => (bif decide (n.1 = c) then oB (idx b a) fun h => (some h.2) else if fits (a + 1) then l (c, (a + 1), j, m, b) else none) else some (-1)) N (d, (0 : Int), i, k, f))
theorem jDS (N : Nat) : mK 96 ⟨⟨[.agg [pI, .pv Y18, .pv Y14], pS], []⟩, ⟨[pI], []⟩, c4A (jym N)⟩ :=
 mO ja Tryz.func96 rfl N (.seq .no (.seq (.seq .no (.block (.loop jl8 .no))) .no)) _
def jDX : Sh := ⟨dz 3 (pI :: .box 4 0 :: .box 5 0 :: .box 6 0 :: .dead :: .dead :: pI :: pI :: dz 111 []), [(4, false, [.pv (.sl .str), .pv Y15]), (5, false, [.pv Y2, .pv Y4]), (6, false, [pI, pS, .pv (.sl .str), pI, pI, .pv (.sl .q)])]⟩
def s_l12Score_m (N : Nat) : (D : Nat) → (List Z0) → (List Z4) → (List Z2) → (List Z1) → Int → Z0 → (List Z0) → Int → Int → (List DQ) → Int → Z11
 | 0, _, _, _, _, _, _, _, _, _, _, _ => none
 | D + 1, c, c2, s, s2, q, q2, q3, q4, q5, q6, id =>
 bif decide (q = 1) then
 some 100
 else
 bif decide (q = 2) then
 oB (idx q3 0) fun e =>
 (oB (jyC N c c2 e) fun r =>
 oB (s_l12Points_m N s s2 q2 r id) fun r2 =>
 some r2)
 else
 bif decide (q = 3) then
 oB (jx2 N c c2 s s2 q q2 q3 q4 q5 q6 id) fun r3 =>
 (some r3)
 else
 bif decide (q = 4) then
 oB (jx5 N s s2 q q2 q3 q4 q5 q6 id) fun r4 =>
 (some r4)
 else
 bif decide (q = 5) then
 oB (jyd N s s2 q q2 q3 q4 q5 q6 id) fun r5 =>
 (oB (jyV N r5) fun r6 =>
 some r6)
 else
 bif decide (q = 6) then
 oB (jyv N s s2 id) fun r7 =>
 (oB (jym N r7.1 r7.2.1 r7.2.2 q2) fun r8 =>
 oB (jJ N r8 q4 q5) fun r9 =>
 oB (jyV N r9) fun r10 =>
 some r10)
 else
 bif decide (q = 10) then
 oB (idx q6 0) fun e2 =>
 (oB (s_l12Score_m N D c c2 s s2 e2.kind e2.field e2.words e2.lo e2.hi e2.kids id) fun r11 =>
 if fits (q4 * r11) then some (q4 * r11) else none)
 else
 bif decide (q = 9) then
 oB (idx q6 1) fun e3 =>
 (oB (s_l12Score_m N D c c2 s s2 e3.kind e3.field e3.words e3.lo e3.hi e3.kids id) fun r12 =>
 bif decide ((0 : Int) < r12) then
 some 0
 else
 oB (idx q6 0) fun e4 =>
 oB (s_l12Score_m N D c c2 s s2 e4.kind e4.field e4.words e4.lo e4.hi e4.kids id) fun r13 =>
 some r13)
 else
 iter (fun go (g : Int × Int × Int × (List Z0) × (List Z4) × (List Z2) × (List Z1) × Int × Z0 × (List Z0) × Int × Int × (List DQ)) =>
 match g with
 | (id2, sum, i, c3, c4, s3, s4, q7, q8, q9, q10, q11, q12) =>
 bif decide (i < (q12.length : Int)) then
 oB (idx q12 i) fun e5 =>
 (oB (s_l12Score_m N D c3 c4 s3 s4 e5.kind e5.field e5.words e5.lo e5.hi e5.kids id2) fun r14 =>
 bif decide (r14 = 0) then
 bif decide (q7 = 7) then
 some 0
 else
 (if fits (sum + r14) then if fits (i + 1) then go (id2, (sum + r14), (i + 1), c3, c4, s3, s4, q7, q8, q9, q10, q11, q12) else none else none)
 else
 if fits (sum + r14) then if fits (i + 1) then go (id2, (sum + r14), (i + 1), c3, c4, s3, s4, q7, q8, q9, q10, q11, q12) else none else none)
 else
 some sum) N (id, 0, 0, c, c2, s, s2, q, q2, q3, q4, q5, q6)
def jyz (N D : Nat) : Model := ⟨⟨[.agg [.pv (.sl .str), .pv Y15], .agg [.pv Y2, .pv Y4], .agg [pI, pS, .pv (.sl .str), pI, pI, .pv (.sl .q)], pI], []⟩, ⟨[pI], []⟩, c11A (s_l12Score_m N D)⟩
theorem jBH (N D : Nat) (ih : mK 51 (jyz N D)) : mK 51 (jyz N (D + 1)) :=
 mO (fC ih (fC (jCy N) (fC (jrZ N) (fC (jAL N) (fC (jCb N) (fC (jCi N) (fC (jCo N) (fC (jDn N) (fC (jDS N) (fC (jcL N) ja)))))))))) Tryz.func51 rfl N (.seq .no (.seq .no (.seq .no (.seq (.seq .no (.block (.loop jDX .no))) .no)))) (jyz N (D + 1))
theorem jz7 (N : Nat) : ∀ D, mK 51 (jyz N D)
 | 0 => modelOk_none ⟨_, Tryz.func51, by decide, by kernel_rfl⟩ _ (fun a => rfl)
 | D + 1 => jBH N D (jz7 N D)
def jqv : Sh := ⟨.dead :: pI :: .dead :: .dead :: .box 4 0 :: dz 6 (.pv Y2 :: pI :: pI :: dz 10 []), [(4, false, [pI, .nils, .nils])]⟩
def i_Seg_doc_m (N : Nat) (c : (List Z2) × (List Z1)) (j : Int) : Option (Int × Z13 × Z6 × Bool) :=
 (iter (fun k (f, d, e, a, h) => bif decide (a < e) then oB (idx d a) fun b => (bif decide (b.1 = f) then some (b.1, b.2.1, b.2.2, true) else if fits (a + 1) then k (f, d, e, (a + 1), h) else none) else some (0, ([] : Z16), ([] : Z8), false)) N (j, c.1, (c.1.length : Int), (0 : Int), (0 : Int)))
theorem jlU (N : Nat) : mK 57 ⟨⟨[.ptr Y1, pI], []⟩, ⟨[.tup [.agg [pI, .pv Y18, .pv Y14], pB]], []⟩, c2A (i_Seg_doc_m N)⟩ :=
 mO ja Tryz.func57 rfl N (.seq .no (.seq (.seq .no (.block (.loop jqv .no))) .no)) _
def jaw (N : Nat) (a : Int) : Z7 :=
 (bif decide ((97 : Int) ≤ a) then bif decide (a ≤ 122) then some true else (bif decide ((48 : Int) ≤ a) then some (decide (a ≤ 57)) else some false) else bif decide ((48 : Int) ≤ a) then some (decide (a ≤ 57)) else some false)
theorem jeK (N : Nat) : mK 199 ⟨⟨[.pv (.int .u8)], []⟩, ⟨[pB], []⟩, c1A (jaw N)⟩ :=
 mO ja Tryz.func199 rfl N .no _
def jm (N : Nat) (a : Int) (c : Int) (b : Int) : Z7 :=
 (bif decide (c ≤ a) then some (decide (a ≤ b)) else some false)
theorem jY (N : Nat) : mK 74 ⟨⟨[pI, pI, pI], []⟩, ⟨[pB], []⟩, c3A (jm N)⟩ :=
 mO ja Tryz.func74 rfl N .no _
def jqW : Sh := ⟨pS :: dz 4 (pI :: pI :: dz 11 []), []⟩
def jO (N : Nat) (c : List UInt8) : Z7 :=
 (iter (fun j (b, d, a) => bif decide (a < d) then oB (idx b a) fun h => (oB (jaw N (h.toNat : Int)) fun i => bif !i then some false else if fits (a + 1) then j (b, d, (a + 1)) else none) else oB (jm N (b.length : Int) 1 12) fun e => some e) N (c, (c.length : Int), (0 : Int)))
theorem jcM (N : Nat) : mK 152 ⟨⟨[pS], []⟩, ⟨[pB], []⟩, c1A (jO N)⟩ :=
 mO (fC (jeK N) (fC (jY N) ja)) Tryz.func152 rfl N (.seq .no (.seq (.seq .no (.block (.loop jqW .no))) .no)) _
def jmc : Sh := ⟨.pv (.sl .str) :: dz 4 (.pv (.sl .str) :: pI :: pI :: dz 21 []), []⟩
def jb2 (N : Nat) (b : List Z0) : Z7 :=
 (iter (fun f (e, c, d, a) => bif decide (a < d) then oB (idx c a) fun h => (oB (jO N h) fun j => bif !j then some false else bif decide ((0 : Int) < a) then if fits (a - 1) then oB (idx e (a - 1)) fun k => (bif !Op.bytesLess k h then some false else if fits (a + 1) then f (e, c, d, (a + 1)) else none) else none else if fits (a + 1) then f (e, c, d, (a + 1)) else none) else some true) N (b, b, (b.length : Int), (0 : Int)))
theorem jtw (N : Nat) : mK 151 ⟨⟨[.pv (.sl .str)], []⟩, ⟨[pB], []⟩, c1A (jb2 N)⟩ :=
 mO (fC (jcM N) ja) Tryz.func151 rfl N (.seq .no (.seq (.seq .no (.block (.loop jmc .no))) .no)) _
def jdF (N : Nat) (a : List UInt8) (b : List UInt8) : Z7 :=
 (bif decide ((b.length : Int) ≤ (a.length : Int)) then if fits ((a.length : Int) - (b.length : Int)) then oB (cut a ((a.length : Int) - (b.length : Int)) (a.length : Int)) fun c => (some (decide (c = b))) else none else some false)
theorem jpU (N : Nat) : mK 238 ⟨⟨[pS, pS], []⟩, ⟨[pB], []⟩, c2A (jdF N)⟩ :=
 mO ja Tryz.func238 rfl N .no _
def jcN (N : Nat) (a : List UInt8) (b : List UInt8) : Z7 :=
 (oB (jdF N a b) fun c => some c)
theorem jsu (N : Nat) : mK 200 ⟨⟨[pS, pS], []⟩, ⟨[pB], []⟩, c2A (jcN N)⟩ :=
 mO (fC (jpU N) ja) Tryz.func200 rfl N .no _
def jod : Sh := ⟨pS :: .dead :: .dead :: pB :: dz 32 [], []⟩
def jnf : Sh := ⟨pS :: .dead :: .dead :: pB :: dz 6 (.own 600010 .str 9 true :: pI :: pI :: dz 23 []), []⟩
def jaB (N : Nat) (i : List UInt8) : Option (Z0) :=
 (oB (jO N i) fun n => bif !n then some ([] : List UInt8) else iter (fun j (l, p) => bif p then iter (fun k (a, f, h, e, b) => bif decide (b < e) then oB (idx h b) fun c => (oB (jcN N a c) fun m => bif m then if fits ((a.length : Int) - (c.length : Int)) then bif decide ((3 : Int) ≤ ((a.length : Int) - (c.length : Int))) then if fits ((a.length : Int) - (c.length : Int)) then oB (cut a 0 ((a.length : Int) - (c.length : Int))) fun o => (j (o, true)) else none else (if fits (b + 1) then k (a, f, h, e, (b + 1)) else none) else none else if fits (b + 1) then k (a, f, h, e, (b + 1)) else none) else j (a, f)) N (l, false, ([([105, 110, 103] : List UInt8), ([101, 100] : List UInt8), ([101, 115] : List UInt8), ([108, 121] : List UInt8), ([115] : List UInt8)] : List Z0), (([([105, 110, 103] : List UInt8), ([101, 100] : List UInt8), ([101, 115] : List UInt8), ([108, 121] : List UInt8), ([115] : List UInt8)] : List Z0).length : Int), (0 : Int)) else some l) N (i, true))
theorem jio (N : Nat) : mK 153 ⟨⟨[pS], []⟩, ⟨[pS], []⟩, c1A (jaB N)⟩ :=
 mO (fC (jcM N) (fC (jsu N) ja)) Tryz.func153 rfl N (.seq .no (.seq .no (.seq (.seq .no (.block (.loop jod (.seq .no (.block (.seq .no (.seq .no (.block (.loop jnf .no))))))))) .no))) _
def jkJ : Sh := ⟨.pv (.sl .str) :: pS :: dz 5 (pI :: pI :: dz 10 []), []⟩
def jdH (N : Nat) (b : List Z0) (h : List UInt8) : Z11 :=
 (iter (fun i (e, d, c, a) => bif decide (a < c) then oB (idx e a) fun j => (bif decide (d = j) then some a else if fits (a + 1) then i (e, d, c, (a + 1)) else none) else some (-1)) N (b, h, (b.length : Int), (0 : Int)))
theorem jkZ (N : Nat) : mK 201 ⟨⟨[.pv (.sl .str), pS], []⟩, ⟨[pI], []⟩, c2A (jdH N)⟩ :=
 mO ja Tryz.func201 rfl N (.seq .no (.seq (.seq .no (.block (.loop jkJ .no))) .no)) _
def jao (N : Nat) (a : List Z0) (b : List UInt8) : Z7 :=
 (oB (jdH N a b) fun c => some (decide ((0 : Int) ≤ c)))
theorem jh5 (N : Nat) : mK 154 ⟨⟨[.pv (.sl .str), pS], []⟩, ⟨[pB], []⟩, c2A (jao N)⟩ :=
 mO (fC (jkZ N) ja) Tryz.func154 rfl N .no _
def jmj : Sh := ⟨.dead :: .box 1 0 :: dz 22 (.pv Y15 :: pI :: pI :: dz 46 []), [(1, false, [.pv (.sl .str), .pv Y15])]⟩
def jrC : Sh := ⟨.dead :: .box 1 0 :: dz 22 (.pv Y15 :: pI :: pI :: dz 12 (pB :: dz 7 (pB :: .dead :: .dead :: .pv (.sl .str) :: pI :: pI :: dz 20 []))), [(1, false, [.pv (.sl .str), .pv Y15])]⟩
def jaj (N : Nat) (f : List Z0) (d : List Z4) : Z7 :=
 (bif decide ((6 : Int) < (f.length : Int)) then some false else oB (jb2 N f) fun y => bif !y then some false else bif decide ((4 : Int) < (d.length : Int)) then some false else iter (fun B (r, n, i, C, z) => bif decide (i < n) then oB (idx r i) fun a => (oB (jm N (a.1.length : Int) 1 3) fun u => bif !u then some false else oB (jO N a.2) fun o => bif !o then some false else oB (jaB N a.2) fun l => bif !decide (l = a.2) then some false else iter (fun w (k, t, j, D, E, p, m, b, h, q) => bif decide (b < m) then oB (idx p b) fun c => (oB (jO N c) fun x => bif !x then some false else oB (jaB N c) fun v => bif !decide (v = c) then some false else oB (jao N h c) fun A => bif A then some false else if fits (b + 1) then w (k, t, j, D, E, p, m, (b + 1), h, q) else none) else if fits (j + 1) then B (k, t, (j + 1), h, q) else none) N (r, n, i, (!o), (!decide (l = a.2)), a.1, (a.1.length : Int), (0 : Int), C, z)) else some true) N (d, (d.length : Int), (0 : Int), f, d))
theorem jdX (N : Nat) : mK 100 ⟨⟨[.agg [.pv (.sl .str), .pv Y15]], []⟩, ⟨[pB], []⟩, c2A (jaj N)⟩ :=
 mO (fC (jtw N) (fC (jY N) (fC (jcM N) (fC (jio N) (fC (jh5 N) ja))))) Tryz.func100 rfl N (.seq .no (.seq .no (.seq (.seq .no (.block (.loop jmj (.seq .no (.seq .no (.seq (.block (.seq .no (.seq .no (.seq .no (.block (.loop jrC .no)))))) .no)))))) .no))) _
def jtd : Sh := ⟨pS :: dz 4 (pI :: pI :: dz 16 []), []⟩
def jaF (N : Nat) (c : List UInt8) : Z7 :=
 (iter (fun h (b, d, a) => bif decide (a < d) then oB (idx b a) fun f => (bif decide ((f.toNat : Int) < 32) then some false else oB (idx b a) fun i => bif decide ((126 : Int) < (i.toNat : Int)) then some false else if fits (a + 1) then h (b, d, (a + 1)) else none) else some (decide ((b.length : Int) ≤ 160))) N (c, (c.length : Int), (0 : Int)))
theorem jdK (N : Nat) : mK 202 ⟨⟨[pS], []⟩, ⟨[pB], []⟩, c1A (jaF N)⟩ :=
 mO ja Tryz.func202 rfl N (.seq .no (.seq (.seq .no (.block (.loop jtd .no))) .no)) _
def jlC : Sh := ⟨.dead :: .box 1 0 :: dz 22 (.pv Y18 :: pI :: pI :: dz 66 []), [(1, false, [pI, .pv Y18, .pv Y14])]⟩
def jpt : Sh := ⟨.dead :: .box 1 0 :: dz 57 (.pv Y14 :: pI :: pI :: dz 31 []), [(1, false, [pI, .pv Y18, .pv Y14])]⟩
def jbx (N : Nat) (p : Int) (d : Z16) (t : Z8) : Z7 :=
 (oB (jm N p 1 9999) fun B => bif !B then some false else bif decide ((3 : Int) < (d.length : Int)) then some false else bif decide ((3 : Int) < (t.length : Int)) then some false else iter (fun u (m, h, a, l, e, c) => bif decide (a < h) then oB (idx m a) fun n => (oB (jO N n.1) fun w => bif !w then some false else oB (jaF N n.2) fun z => bif !z then some false else bif decide ((0 : Int) < a) then if fits (a - 1) then oB (idx e (a - 1)) fun C => (bif !Op.bytesLess C.1 n.1 then some false else if fits (a + 1) then u (m, h, (a + 1), l, e, c) else none) else none else if fits (a + 1) then u (m, h, (a + 1), l, e, c) else none) else iter (fun q (i, j, b, v, r, o) => bif decide (b < j) then oB (idx i b) fun k => (oB (jO N k.1) fun x => bif !x then some false else oB (jm N k.2 0 999999999) fun A => bif !A then some false else bif decide ((0 : Int) < b) then if fits (b - 1) then oB (idx o (b - 1)) fun y => (bif !Op.bytesLess y.1 k.1 then some false else if fits (b + 1) then q (i, j, (b + 1), v, r, o) else none) else none else if fits (b + 1) then q (i, j, (b + 1), v, r, o) else none) else some true) N (c, (c.length : Int), (0 : Int), l, e, c)) N (d, (d.length : Int), (0 : Int), p, d, t))
theorem jh0 (N : Nat) : mK 155 ⟨⟨[.agg [pI, .pv Y18, .pv Y14]], []⟩, ⟨[pB], []⟩, c3A (jbx N)⟩ :=
 mO (fC (jY N) (fC (jcM N) (fC (jdK N) ja))) Tryz.func155 rfl N (.seq .no (.seq .no (.seq (.seq .no (.block (.loop jlC .no))) (.seq (.seq .no (.block (.loop jpt .no))) .no)))) _
def jpj : Sh := ⟨.pv Y2 :: dz 4 (.pv Y2 :: pI :: pI :: dz 26 []), []⟩
def jbf (N : Nat) (d : List Z2) : Z7 :=
 (iter (fun h (c, e, f, a) => bif decide (a < f) then oB (idx e a) fun b => (oB (jbx N b.1 b.2.1 b.2.2) fun j => bif !j then some false else bif decide ((0 : Int) < a) then if fits (a - 1) then oB (idx c (a - 1)) fun k => (bif decide (b.1 ≤ k.1) then some false else if fits (a + 1) then h (c, e, f, (a + 1)) else none) else none else if fits (a + 1) then h (c, e, f, (a + 1)) else none) else some (decide ((c.length : Int) ≤ 16))) N (d, d, (d.length : Int), (0 : Int)))
theorem jjU (N : Nat) : mK 101 ⟨⟨[.pv Y2], []⟩, ⟨[pB], []⟩, c1A (jbf N)⟩ :=
 mO (fC (jh0 N) ja) Tryz.func101 rfl N (.seq .no (.seq (.seq .no (.block (.loop jpj .no))) .no)) _
def jbO (N : Nat) (c : Int) (b : Z16) (a : Z8) : Option Z2 :=
 (if room ([] : Z16).length b.length 32 then if room ([] : Z8).length a.length 24 then some (c, (([] : Z16) ++ b), (([] : Z8) ++ a)) else none else none)
theorem jrI (N : Nat) : mK 203 ⟨⟨[.agg [pI, .pv Y18, .pv Y14]], []⟩, ⟨[.agg [pI, .own 1 Y19 199 true, .own 2 Y16 192 true]], []⟩, c3A (jbO N)⟩ :=
 mO ja Tryz.func203 rfl N .no _
def joW : Sh := ⟨dz 3 (.own 600003 Y3 88 true :: dz 3 (.pv Y2 :: pI :: pI :: dz 10 [])), []⟩
def jbV (N : Nat) (f : List Z2) : Option ((List Z2)) :=
 (iter (fun j (c, h, d, a) => bif decide (a < d) then oB (idx h a) fun b => (oB (jbO N b.1 b.2.1 b.2.2) fun e => if room c.length ([e] : List Z2).length 56 then if fits (a + 1) then j ((c ++ ([e] : List Z2)), h, d, (a + 1)) else none else none) else some c) N (([] : List Z2), f, (f.length : Int), (0 : Int)))
theorem joC (N : Nat) : mK 156 ⟨⟨[.pv Y2], []⟩, ⟨[.own 1 Y3 88 true], []⟩, c1A (jbV N)⟩ :=
 mO (fC (jrI N) ja) Tryz.func156 rfl N (.seq .no (.seq .no (.seq (.seq .no (.block (.loop joW .no))) .no))) _
def jI (N : Nat) (a : Int) : Z11 :=
 (bif decide ((65 : Int) ≤ a) then bif decide (a ≤ 90) then some (IntKind.u8.wrap ((IntKind.u8.wrap (a + 97)) - 65)) else (some a) else some a)
theorem jmu (N : Nat) : mK 239 ⟨⟨[.pv (.int .u8)], []⟩, ⟨[.pv (.int .u8)], []⟩, c1A (jI N)⟩ :=
 mO ja Tryz.func239 rfl N .no _
def jpB : Sh := ⟨pS :: .dead :: .dead :: .own 600003 Y6 246 true :: pI :: dz 57 [], []⟩
def jo6 : Sh := ⟨pS :: .dead :: .dead :: .own 600003 Y6 246 true :: pI :: .box 5 0 :: .own 600006 (.int .u8) 5 true :: dz 55 [], [(5, false, [pS, pI, pI, pI])]⟩
def jct (N : Nat) (n : List UInt8) : Option ((List Z9)) :=
 (oB (jaF N n) fun x => bif !x then some ([] : List Z9) else iter (fun l (i, j, e) => bif decide (e < (i.length : Int)) then oB (idx i e) fun t => (oB (jI N (t.toNat : Int)) fun r => oB (jaw N r) fun v => bif !v then if fits (e + 1) then l (i, j, (e + 1)) else none else iter (fun p (c, d, a, b, m, f, h, q) => bif decide (a < (c.length : Int)) then oB (idx c a) fun z => (oB (jI N (z.toNat : Int)) fun u => oB (jaw N u) fun w => bif w then bif decide ((b.length : Int) < 12) then oB (idx c a) fun y => (oB (jI N (y.toNat : Int)) fun o => if room b.length ([o] : List Int).length 1 then if fits (a + 1) then p (c, d, (a + 1), (b ++ ([o] : List Int)), m, f, h, q) else none else none) else (if fits (a + 1) then p (c, d, (a + 1), b, m, f, h, q) else none) else if room d.length ([((bytesOf b), f, h, a)] : List Z9).length 40 then l (c, (d ++ ([((bytesOf b), f, h, a)] : List Z9)), a) else none) else if room d.length ([((bytesOf b), f, h, a)] : List Z9).length 40 then l (c, (d ++ ([((bytesOf b), f, h, a)] : List Z9)), a) else none) N (i, j, e, ([] : List Int), ([] : List UInt8), (j.length : Int), e, (0 : Int))) else some j) N (n, ([] : List Z9), (0 : Int)))
theorem jqc (N : Nat) : mK 204 ⟨⟨[pS], []⟩, ⟨[.own 1 Y6 246 true], []⟩, c1A (jct N)⟩ :=
 mO (fC (jdK N) (fC (jmu N) (fC (jeK N) ja))) Tryz.func204 rfl N (.seq .no (.seq .no (.seq .no (.seq (.seq .no (.block (.loop jpB (.seq .no (.block (.seq .no (.seq .no (.seq .no (.seq (.block (.loop jo6 .no)) .no))))))))) .no)))) _
def jty : Sh := ⟨.dead :: .pv Y14 :: pI :: .box 3 0 :: dz 3 (.pv (.opt Y17) :: dz 8 (pI :: pI :: dz 73 [])), [(3, false, [.pv (.sl .str), .pv Y15])]⟩
def jss : Sh := ⟨.dead :: .pv Y14 :: pI :: .box 3 0 :: dz 3 (.pv (.opt Y17) :: .dead :: .ptr Y17 :: pB :: dz 5 (pI :: pI :: dz 31 (pB :: dz 4 (.pv (.sl .str) :: pI :: pI :: dz 34 [])))), [(3, false, [.pv (.sl .str), .pv Y15])]⟩
def jbH (N : Nat) (c : List Z0) (c2 : List Z4) (terms : Z8) (at0 : Int) : Option ((Option Z4)) :=
 (iter (fun go (terms2, at02, best, t16, t17, c3, c4) => bif decide (t17 < t16) then oB (idx c4 t17) fun e => (if fits ((terms2.length : Int) - at02) then bif decide (((terms2.length : Int) - at02) < (e.1.length : Int)) then if fits (t17 + 1) then go (terms2, at02, best, t16, (t17 + 1), c3, c4) else none else (bif !(Option.isNone best) then oB best fun p => (bif decide ((e.1.length : Int) ≤ (p.1.length : Int)) then if fits (t17 + 1) then go (terms2, at02, best, t16, (t17 + 1), c3, c4) else none else iter (fun go2 (terms3, at03, best2, r, fits0, t162, t172, t49, t54, t55, t56, c5, c6) => bif decide (t56 < t55) then oB (idx t54 t56) fun e2 => (if fits (at03 + t56) then oB (idx terms3 (at03 + t56)) fun e3 => (bif fits0 then bif decide (e3.1 = e2) then oB (idx terms3 at03) fun e4 => (if fits (e4.2 + t56) then if fits (t56 + 1) then go2 (terms3, at03, best2, r, (decide (e3.2 = (e4.2 + t56))), t162, t172, t49, t54, t55, (t56 + 1), c5, c6) else none else none) else (if fits (t56 + 1) then go2 (terms3, at03, best2, r, false, t162, t172, t49, t54, t55, (t56 + 1), c5, c6) else none) else if fits (t56 + 1) then go2 (terms3, at03, best2, r, false, t162, t172, t49, t54, t55, (t56 + 1), c5, c6) else none) else none) else bif fits0 then if fits (t172 + 1) then go (terms3, at03, (some r), t162, (t172 + 1), c5, c6) else none else if fits (t172 + 1) then go (terms3, at03, best2, t162, (t172 + 1), c5, c6) else none) N (terms2, at02, best, e, true, t16, t17, (decide ((e.1.length : Int) ≤ (p.1.length : Int))), e.1, (e.1.length : Int), (0 : Int), c3, c4)) else iter (fun go3 (terms4, at04, best3, r2, fits02, t163, t173, t492, t542, t552, t562, c7, c8) => bif decide (t562 < t552) then oB (idx t542 t562) fun e5 => (if fits (at04 + t562) then oB (idx terms4 (at04 + t562)) fun e6 => (bif fits02 then bif decide (e6.1 = e5) then oB (idx terms4 at04) fun e7 => (if fits (e7.2 + t562) then if fits (t562 + 1) then go3 (terms4, at04, best3, r2, (decide (e6.2 = (e7.2 + t562))), t163, t173, t492, t542, t552, (t562 + 1), c7, c8) else none else none) else (if fits (t562 + 1) then go3 (terms4, at04, best3, r2, false, t163, t173, t492, t542, t552, (t562 + 1), c7, c8) else none) else if fits (t562 + 1) then go3 (terms4, at04, best3, r2, false, t163, t173, t492, t542, t552, (t562 + 1), c7, c8) else none) else none) else bif fits02 then if fits (t173 + 1) then go (terms4, at04, (some r2), t163, (t173 + 1), c7, c8) else none else if fits (t173 + 1) then go (terms4, at04, best3, t163, (t173 + 1), c7, c8) else none) N (terms2, at02, best, e, true, t16, t17, false, e.1, (e.1.length : Int), (0 : Int), c3, c4)) else none) else some best) N (terms, at0, (none : Option Z4), (c2.length : Int), (0 : Int), c, c2))
theorem jtv (N : Nat) : mK 205 ⟨⟨[.agg [.pv (.sl .str), .pv Y15], .pv Y14, pI], []⟩, ⟨[.pv (.opt Y17)], []⟩, c4A (jbH N)⟩ :=
 mO ja Tryz.func205 rfl N (.seq .no (.seq .no (.seq (.seq .no (.block (.loop jty (.seq .no (.seq .no (.seq (.block (.seq .no (.seq .no (.seq .no (.seq .no (.seq (.seq .no (.block (.loop jss .no))) .no)))))) .no)))))) .no))) _
def jlW : Sh := ⟨.dead :: .dead :: .box 2 0 :: .dead :: .dead :: .own 600005 Y16 186 true :: .own 600006 Y16 186 true :: dz 17 (.own 600024 Y6 246 true :: pI :: pI :: dz 67 []), [(2, false, [.pv (.sl .str), .pv Y15])]⟩
def jnt : Sh := ⟨.dead :: .dead :: .box 2 0 :: .dead :: .dead :: .own 600005 Y16 186 true :: .own 600006 Y16 186 true :: dz 3 (pI :: dz 83 []), [(2, false, [.pv (.sl .str), .pv Y15])]⟩
def jbw (N : Nat) (v : List Z0) (B : List Z4) (u : List UInt8) : Option (Z6) :=
 (oB (jaj N v B) fun G => bif !G then some ([] : Z8) else oB (jaF N u) fun C => bif !C then some ([] : Z8) else oB (jct N u) fun x => iter (fun r (i, f, k, h, a, d, j) => bif decide (a < h) then oB (idx k a) fun l => (oB (jaB N l.1) fun n => oB (jao N d l.1) fun E => bif !E then oB (jao N d n) fun D => (bif !D then if room f.length ([(n, l.2.1)] : Z8).length 24 then if fits (a + 1) then r (i, (f ++ ([(n, l.2.1)] : Z8)), k, h, (a + 1), d, j) else none else none else if fits (a + 1) then r (i, f, k, h, (a + 1), d, j) else none) else if fits (a + 1) then r (i, f, k, h, (a + 1), d, j) else none) else iter (fun w (e, c, b, o, q) => bif decide (b < (c.length : Int)) then oB (jbH N o q c b) fun p => (bif Option.isNone p then oB (idx c b) fun A => (if room e.length ([A] : Z8).length 24 then if fits (b + 1) then w ((e ++ ([A] : Z8)), c, (b + 1), o, q) else none else none) else oB p fun t => oB (idx c b) fun z => if room e.length ([(t.2, z.2)] : Z8).length 24 then oB p fun y => (if fits (b + (y.1.length : Int)) then w ((e ++ ([(t.2, z.2)] : Z8)), c, (b + (y.1.length : Int)), o, q) else none) else none) else some e) N (i, f, (0 : Int), d, j)) N (([] : Z8), ([] : Z8), x, (x.length : Int), (0 : Int), v, B))
theorem jgO (N : Nat) : mK 157 ⟨⟨[.agg [.pv (.sl .str), .pv Y15], pS], []⟩, ⟨[.own 1 Y16 186 true], []⟩, c3A (jbw N)⟩ :=
 mO (fC (jdX N) (fC (jdK N) (fC (jqc N) (fC (jio N) (fC (jh5 N) (fC (jtv N) ja)))))) Tryz.func157 rfl N (.seq .no (.seq .no (.seq .no (.seq .no (.seq (.seq .no (.block (.loop jlW .no))) (.seq (.seq .no (.block (.loop jnt .no))) .no)))))) _
def k__loop_example_fossick_impl_Seg_put_1_m (N : Nat) (b : List UInt8) (c : List UInt8) (e : Z3) (a : List UInt8) (d : Z0 × Int) : Z7 :=
 (bif decide (b = a) then some (decide (c = d.1)) else some false)
theorem jmw (N : Nat) : mK 207 ⟨⟨[.agg [pS, pS, .pv Y11], .ptr .str, .ptr Y16], []⟩, ⟨[pB], []⟩, c5A (k__loop_example_fossick_impl_Seg_put_1_m N)⟩ :=
 mO ja Tryz.func207 rfl N .no _
def jnc : Sh := ⟨.pv Y4 :: .clo 207 [.ptr .str, .ptr Y16] :: dz 5 (pI :: pI :: dz 10 []), []⟩
def k_slices_IndexFunc_146_m (N : Nat) (d : List Z1) (k : Z0 × Z0 × Int) : Z11 :=
 (iter (fun j (f, b, e, a) => bif decide (a < e) then oB (idx f a) fun c => (oB (k__loop_example_fossick_impl_Seg_put_1_m N c.1 c.2.1 c.2.2 b.1 b.2) fun i => bif i then some a else if fits (a + 1) then j (f, b, e, (a + 1)) else none) else some (-1)) N (d, k, (d.length : Int), (0 : Int)))
theorem jrl (N : Nat) : mK 206 ⟨⟨[.pv Y4, .clo 207 [.ptr .str, .ptr Y16]], []⟩, ⟨[pI], []⟩, c2A (k_slices_IndexFunc_146_m N)⟩ :=
 mO (fC (jmw N) ja) Tryz.func206 rfl N (.seq .no (.seq (.seq .no (.block (.loop jnc .no))) .no)) _
def i_Seg_put_m (N : Nat) (h : List UInt8) (f : List UInt8) (i : Int) (e : Int) (p : List Z2) (a : List Z1) : Option ((List Z2) × (List Z1)) :=
 (oB (k_slices_IndexFunc_146_m N a (h, f, i)) fun d => bif decide (d < 0) then if room a.length ([(h, f, ([] : Z3))] : List Z1).length 56 then if 0 ≤ (a.length : Int) ∧ (a.length : Int) < ((a ++ ([(h, f, ([] : Z3))] : List Z1)).length : Int) then oB ((a ++ ([(h, f, ([] : Z3))] : List Z1))[(a.length : Int).toNat]?) fun b => (if fits ((b.2.2.length : Int) - 1) then bif decide (((b.2.2.length : Int) - 1) < 0) then oB ((a ++ ([(h, f, ([] : Z3))] : List Z1))[(a.length : Int).toNat]?) fun am => (if (a.length : Int).toNat = (a.length : Int).toNat then if room b.2.2.length ([(e, ([] : List Int))] : Z3).length 32 then if (a.length : Int).toNat = (a.length : Int).toNat then oB ((a ++ ([(h, f, ([] : Z3))] : List Z1))[(a.length : Int).toNat]?) fun m => (if fits (((b.2.2.length : Int) - 1) + 1) then oB (((a ++ ([(h, f, ([] : Z3))] : List Z1)).set (a.length : Int).toNat (m.1, m.2.1, (b.2.2 ++ ([(e, ([] : List Int))] : Z3))))[(a.length : Int).toNat]?) fun n => (oB (n.2.2[(((b.2.2.length : Int) - 1) + 1).toNat]?) fun x => oB (((a ++ ([(h, f, ([] : Z3))] : List Z1)).set (a.length : Int).toNat (m.1, m.2.1, (b.2.2 ++ ([(e, ([] : List Int))] : Z3))))[(a.length : Int).toNat]?) fun ac => if (a.length : Int).toNat = (a.length : Int).toNat then oB (((a ++ ([(h, f, ([] : Z3))] : List Z1)).set (a.length : Int).toNat (m.1, m.2.1, (b.2.2 ++ ([(e, ([] : List Int))] : Z3))))[(a.length : Int).toNat]?) fun ag => (if (a.length : Int).toNat = (a.length : Int).toNat then if 0 ≤ (((b.2.2.length : Int) - 1) + 1) ∧ (((b.2.2.length : Int) - 1) + 1) < (n.2.2.length : Int) then oB (n.2.2[(((b.2.2.length : Int) - 1) + 1).toNat]?) fun af => (if (((b.2.2.length : Int) - 1) + 1).toNat = (((b.2.2.length : Int) - 1) + 1).toNat then if room x.2.length ([i] : List Int).length 8 then if 0 ≤ (((b.2.2.length : Int) - 1) + 1) ∧ (((b.2.2.length : Int) - 1) + 1) < (n.2.2.length : Int) then if (((b.2.2.length : Int) - 1) + 1).toNat = (((b.2.2.length : Int) - 1) + 1).toNat then oB (n.2.2[(((b.2.2.length : Int) - 1) + 1).toNat]?) fun G => (some (p, (((a ++ ([(h, f, ([] : Z3))] : List Z1)).set (a.length : Int).toNat (m.1, m.2.1, (b.2.2 ++ ([(e, ([] : List Int))] : Z3)))).modify ((a.length : Int).toNat) fun E => (E.1, E.2.1, (n.2.2.set (((b.2.2.length : Int) - 1) + 1).toNat (G.1, (x.2 ++ ([i] : List Int)))))))) else none else none else none else none) else none else none) else none) else none) else none else none else none) else (oB ((a ++ ([(h, f, ([] : Z3))] : List Z1))[(a.length : Int).toNat]?) fun ao => if (a.length : Int).toNat = (a.length : Int).toNat then if 0 ≤ ((b.2.2.length : Int) - 1) ∧ ((b.2.2.length : Int) - 1) < (b.2.2.length : Int) then oB (b.2.2[((b.2.2.length : Int) - 1).toNat]?) fun P => (bif !decide (P.1 = e) then oB ((a ++ ([(h, f, ([] : Z3))] : List Z1))[(a.length : Int).toNat]?) fun ah => (if (a.length : Int).toNat = (a.length : Int).toNat then if room b.2.2.length ([(e, ([] : List Int))] : Z3).length 32 then if (a.length : Int).toNat = (a.length : Int).toNat then oB ((a ++ ([(h, f, ([] : Z3))] : List Z1))[(a.length : Int).toNat]?) fun l => (if fits (((b.2.2.length : Int) - 1) + 1) then oB (((a ++ ([(h, f, ([] : Z3))] : List Z1)).set (a.length : Int).toNat (l.1, l.2.1, (b.2.2 ++ ([(e, ([] : List Int))] : Z3))))[(a.length : Int).toNat]?) fun q => (oB (q.2.2[(((b.2.2.length : Int) - 1) + 1).toNat]?) fun z => oB (((a ++ ([(h, f, ([] : Z3))] : List Z1)).set (a.length : Int).toNat (l.1, l.2.1, (b.2.2 ++ ([(e, ([] : List Int))] : Z3))))[(a.length : Int).toNat]?) fun ap => if (a.length : Int).toNat = (a.length : Int).toNat then oB (((a ++ ([(h, f, ([] : Z3))] : List Z1)).set (a.length : Int).toNat (l.1, l.2.1, (b.2.2 ++ ([(e, ([] : List Int))] : Z3))))[(a.length : Int).toNat]?) fun al => (if (a.length : Int).toNat = (a.length : Int).toNat then if 0 ≤ (((b.2.2.length : Int) - 1) + 1) ∧ (((b.2.2.length : Int) - 1) + 1) < (q.2.2.length : Int) then oB (q.2.2[(((b.2.2.length : Int) - 1) + 1).toNat]?) fun aq => (if (((b.2.2.length : Int) - 1) + 1).toNat = (((b.2.2.length : Int) - 1) + 1).toNat then if room z.2.length ([i] : List Int).length 8 then if 0 ≤ (((b.2.2.length : Int) - 1) + 1) ∧ (((b.2.2.length : Int) - 1) + 1) < (q.2.2.length : Int) then if (((b.2.2.length : Int) - 1) + 1).toNat = (((b.2.2.length : Int) - 1) + 1).toNat then oB (q.2.2[(((b.2.2.length : Int) - 1) + 1).toNat]?) fun Q => (some (p, (((a ++ ([(h, f, ([] : Z3))] : List Z1)).set (a.length : Int).toNat (l.1, l.2.1, (b.2.2 ++ ([(e, ([] : List Int))] : Z3)))).modify ((a.length : Int).toNat) fun D => (D.1, D.2.1, (q.2.2.set (((b.2.2.length : Int) - 1) + 1).toNat (Q.1, (z.2 ++ ([i] : List Int)))))))) else none else none else none else none) else none else none) else none) else none) else none else none else none) else if (a.length : Int).toNat = (a.length : Int).toNat then oB (b.2.2[((b.2.2.length : Int) - 1).toNat]?) fun u => (oB ((a ++ ([(h, f, ([] : Z3))] : List Z1))[(a.length : Int).toNat]?) fun ab => if (a.length : Int).toNat = (a.length : Int).toNat then oB ((a ++ ([(h, f, ([] : Z3))] : List Z1))[(a.length : Int).toNat]?) fun X => (if (a.length : Int).toNat = (a.length : Int).toNat then if 0 ≤ ((b.2.2.length : Int) - 1) ∧ ((b.2.2.length : Int) - 1) < (b.2.2.length : Int) then oB (b.2.2[((b.2.2.length : Int) - 1).toNat]?) fun W => (if ((b.2.2.length : Int) - 1).toNat = ((b.2.2.length : Int) - 1).toNat then if room u.2.length ([i] : List Int).length 8 then if 0 ≤ ((b.2.2.length : Int) - 1) ∧ ((b.2.2.length : Int) - 1) < (b.2.2.length : Int) then if ((b.2.2.length : Int) - 1).toNat = ((b.2.2.length : Int) - 1).toNat then oB (b.2.2[((b.2.2.length : Int) - 1).toNat]?) fun I => (some (p, ((a ++ ([(h, f, ([] : Z3))] : List Z1)).modify ((a.length : Int).toNat) fun y => (y.1, y.2.1, (b.2.2.set ((b.2.2.length : Int) - 1).toNat (I.1, (u.2 ++ ([i] : List Int)))))))) else none else none else none else none) else none else none) else none) else none) else none else none) else none) else none else none else if 0 ≤ d ∧ d < (a.length : Int) then oB (a[d.toNat]?) fun c => (if fits ((c.2.2.length : Int) - 1) then bif decide (((c.2.2.length : Int) - 1) < 0) then oB (a[d.toNat]?) fun ad => (if d.toNat = d.toNat then if room c.2.2.length ([(e, ([] : List Int))] : Z3).length 32 then if d.toNat = d.toNat then oB (a[d.toNat]?) fun k => (if fits (((c.2.2.length : Int) - 1) + 1) then oB ((a.set d.toNat (k.1, k.2.1, (c.2.2 ++ ([(e, ([] : List Int))] : Z3))))[d.toNat]?) fun r => (oB (r.2.2[(((c.2.2.length : Int) - 1) + 1).toNat]?) fun B => oB ((a.set d.toNat (k.1, k.2.1, (c.2.2 ++ ([(e, ([] : List Int))] : Z3))))[d.toNat]?) fun R => if d.toNat = d.toNat then oB ((a.set d.toNat (k.1, k.2.1, (c.2.2 ++ ([(e, ([] : List Int))] : Z3))))[d.toNat]?) fun U => (if d.toNat = d.toNat then if 0 ≤ (((c.2.2.length : Int) - 1) + 1) ∧ (((c.2.2.length : Int) - 1) + 1) < (r.2.2.length : Int) then oB (r.2.2[(((c.2.2.length : Int) - 1) + 1).toNat]?) fun ae => (if (((c.2.2.length : Int) - 1) + 1).toNat = (((c.2.2.length : Int) - 1) + 1).toNat then if room B.2.length ([i] : List Int).length 8 then if 0 ≤ (((c.2.2.length : Int) - 1) + 1) ∧ (((c.2.2.length : Int) - 1) + 1) < (r.2.2.length : Int) then if (((c.2.2.length : Int) - 1) + 1).toNat = (((c.2.2.length : Int) - 1) + 1).toNat then oB (r.2.2[(((c.2.2.length : Int) - 1) + 1).toNat]?) fun L => (some (p, ((a.set d.toNat (k.1, k.2.1, (c.2.2 ++ ([(e, ([] : List Int))] : Z3)))).modify d.toNat fun w => (w.1, w.2.1, (r.2.2.set (((c.2.2.length : Int) - 1) + 1).toNat (L.1, (B.2 ++ ([i] : List Int)))))))) else none else none else none else none) else none else none) else none) else none) else none else none else none) else (oB (a[d.toNat]?) fun S => if d.toNat = d.toNat then if 0 ≤ ((c.2.2.length : Int) - 1) ∧ ((c.2.2.length : Int) - 1) < (c.2.2.length : Int) then oB (c.2.2[((c.2.2.length : Int) - 1).toNat]?) fun O => (bif !decide (O.1 = e) then oB (a[d.toNat]?) fun ak => (if d.toNat = d.toNat then if room c.2.2.length ([(e, ([] : List Int))] : Z3).length 32 then if d.toNat = d.toNat then oB (a[d.toNat]?) fun j => (if fits (((c.2.2.length : Int) - 1) + 1) then oB ((a.set d.toNat (j.1, j.2.1, (c.2.2 ++ ([(e, ([] : List Int))] : Z3))))[d.toNat]?) fun o => (oB (o.2.2[(((c.2.2.length : Int) - 1) + 1).toNat]?) fun t => oB ((a.set d.toNat (j.1, j.2.1, (c.2.2 ++ ([(e, ([] : List Int))] : Z3))))[d.toNat]?) fun an => if d.toNat = d.toNat then oB ((a.set d.toNat (j.1, j.2.1, (c.2.2 ++ ([(e, ([] : List Int))] : Z3))))[d.toNat]?) fun T => (if d.toNat = d.toNat then if 0 ≤ (((c.2.2.length : Int) - 1) + 1) ∧ (((c.2.2.length : Int) - 1) + 1) < (o.2.2.length : Int) then oB (o.2.2[(((c.2.2.length : Int) - 1) + 1).toNat]?) fun ai => (if (((c.2.2.length : Int) - 1) + 1).toNat = (((c.2.2.length : Int) - 1) + 1).toNat then if room t.2.length ([i] : List Int).length 8 then if 0 ≤ (((c.2.2.length : Int) - 1) + 1) ∧ (((c.2.2.length : Int) - 1) + 1) < (o.2.2.length : Int) then if (((c.2.2.length : Int) - 1) + 1).toNat = (((c.2.2.length : Int) - 1) + 1).toNat then oB (o.2.2[(((c.2.2.length : Int) - 1) + 1).toNat]?) fun H => (some (p, ((a.set d.toNat (j.1, j.2.1, (c.2.2 ++ ([(e, ([] : List Int))] : Z3)))).modify d.toNat fun C => (C.1, C.2.1, (o.2.2.set (((c.2.2.length : Int) - 1) + 1).toNat (H.1, (t.2 ++ ([i] : List Int)))))))) else none else none else none else none) else none else none) else none) else none) else none else none else none) else if d.toNat = d.toNat then oB (c.2.2[((c.2.2.length : Int) - 1).toNat]?) fun v => (oB (a[d.toNat]?) fun aa => if d.toNat = d.toNat then oB (a[d.toNat]?) fun aj => (if d.toNat = d.toNat then if 0 ≤ ((c.2.2.length : Int) - 1) ∧ ((c.2.2.length : Int) - 1) < (c.2.2.length : Int) then oB (c.2.2[((c.2.2.length : Int) - 1).toNat]?) fun V => (if ((c.2.2.length : Int) - 1).toNat = ((c.2.2.length : Int) - 1).toNat then if room v.2.length ([i] : List Int).length 8 then if 0 ≤ ((c.2.2.length : Int) - 1) ∧ ((c.2.2.length : Int) - 1) < (c.2.2.length : Int) then if ((c.2.2.length : Int) - 1).toNat = ((c.2.2.length : Int) - 1).toNat then oB (c.2.2[((c.2.2.length : Int) - 1).toNat]?) fun K => (some (p, (a.modify d.toNat fun A => (A.1, A.2.1, (c.2.2.set ((c.2.2.length : Int) - 1).toNat (K.1, (v.2 ++ ([i] : List Int)))))))) else none else none else none else none) else none else none) else none) else none) else none else none) else none) else none)
theorem jky (N : Nat) : mK 158 ⟨⟨[.box 900000 0, pS, .agg [pS, pI], pI], [(900000, false, [.pv Y2, .tre 850001 Y5 136])]⟩, ⟨[.tup []], [(900000, false, [.pv Y2, .tre 1 Y5 136])]⟩, c6A (i_Seg_put_m N)⟩ :=
 mO (fC (jrl N) ja) Tryz.func158 rfl N (.seq .no (.seq .no (.seq .no (.seq .no (.seq .no (.seq .no (.touch [.out 9 [(2, 79, 175, 10), (1, 88, 3, 0)]]))))))) _ (wr := [33, 34, 70, 71, 91, 92]) (rs := [900000, 850001]) (dw := [16, 33, 70])
def jl0 : Sh := ⟨.pv (.int .u64) :: .dead :: pI :: dz 22 [], []⟩
def k_math_bits_Len64_m (N : Nat) (e : Int) : Z11 :=
 (meet (fun (a : Int × Int) => match a with | (d, b) => meet (fun (a : Int × Int) => match a with | (c, f) => meet (fun (a : Int × Int) => match a with | (m, j) => oB (idx ([0, 1, 2, 2, 3, 3, 3, 3, 4, 4, 4, 4, 4, 4, 4, 4, 5, 5, 5, 5, 5, 5, 5, 5, 5, 5, 5, 5, 5, 5, 5, 5, 6, 6, 6, 6, 6, 6, 6, 6, 6, 6, 6, 6, 6, 6, 6, 6, 6, 6, 6, 6, 6, 6, 6, 6, 6, 6, 6, 6, 6, 6, 6, 6, 7, 7, 7, 7, 7, 7, 7, 7, 7, 7, 7, 7, 7, 7, 7, 7, 7, 7, 7, 7, 7, 7, 7, 7, 7, 7, 7, 7, 7, 7, 7, 7, 7, 7, 7, 7, 7, 7, 7, 7, 7, 7, 7, 7, 7, 7, 7, 7, 7, 7, 7, 7, 7, 7, 7, 7, 7, 7, 7, 7, 7, 7, 7, 7, 8, 8, 8, 8, 8, 8, 8, 8, 8, 8, 8, 8, 8, 8, 8, 8, 8, 8, 8, 8, 8, 8, 8, 8, 8, 8, 8, 8, 8, 8, 8, 8, 8, 8, 8, 8, 8, 8, 8, 8, 8, 8, 8, 8, 8, 8, 8, 8, 8, 8, 8, 8, 8, 8, 8, 8, 8, 8, 8, 8, 8, 8, 8, 8, 8, 8, 8, 8, 8, 8, 8, 8, 8, 8, 8, 8, 8, 8, 8, 8, 8, 8, 8, 8, 8, 8, 8, 8, 8, 8, 8, 8, 8, 8, 8, 8, 8, 8, 8, 8, 8, 8, 8, 8, 8, 8, 8, 8, 8, 8, 8, 8, 8, 8, 8, 8, 8, 8, 8, 8, 8, 8, 8, 8, 8, 8, 8, 8] : List UInt8) (IntKind.u8.wrap m)) fun h => if fits (j + (IntKind.i64.wrap (h.toNat : Int))) then some (j + (IntKind.i64.wrap (h.toNat : Int))) else none) fun i => bif decide ((256 : Int) ≤ c) then if 0 ≤ (8 : Int) then if fits (f + 8) then i ((c.fdiv (2 ^ (min (8 : Int).toNat (IntKind.bits .u64)))), (f + 8)) else none else none else i (c, f)) fun l => bif decide ((65536 : Int) ≤ d) then if 0 ≤ (16 : Int) then if fits (b + 16) then l ((d.fdiv (2 ^ (min (16 : Int).toNat (IntKind.bits .u64)))), (b + 16)) else none else none else l (d, b)) fun k => bif decide ((4294967296 : Int) ≤ e) then if 0 ≤ (32 : Int) then k ((e.fdiv (2 ^ (min (32 : Int).toNat (IntKind.bits .u64)))), 32) else none else k (e, 0))
theorem jrK (N : Nat) : mK 231 ⟨⟨[.pv (.int .u64)], []⟩, ⟨[pI], []⟩, c1A (k_math_bits_Len64_m N)⟩ :=
 mO ja Tryz.func231 rfl N (.seq .no (.meet jl0 .no (.meet jl0 .no (.meet jl0 .no .no)))) _
def k_math_bits_Len_m (N : Nat) (a : Int) : Z11 :=
 (oB (k_math_bits_Len64_m N a) fun b => some b)
theorem jda (N : Nat) : mK 176 ⟨⟨[.pv (.int .u64)], []⟩, ⟨[pI], []⟩, c1A (k_math_bits_Len_m N)⟩ :=
 mO (fC (jrK N) ja) Tryz.func176 rfl N .no _
def jbn (N : Nat) (a : List UInt8) : Z7 :=
 (some (!decide (a = a)))
theorem jkt (N : Nat) : mK 209 ⟨⟨[pS], []⟩, ⟨[pB], []⟩, c1A (jbn N)⟩ :=
 mO ja Tryz.func209 rfl N .no _
def jam (N : Nat) (b : List UInt8) (a : List UInt8) : Z11 :=
 (oB (jbn N b) fun d => oB (jbn N a) fun c => bif d then bif c then some 0 else (some (-1)) else bif c then some 1 else bif Op.bytesLess b a then some (-1) else bif !(Op.bytesLess b a || decide (b = a)) then some 1 else some 0)
theorem ji2 (N : Nat) : mK 161 ⟨⟨[pS, pS], []⟩, ⟨[pI], []⟩, c2A (jam N)⟩ :=
 mO (fC (jkt N) ja) Tryz.func161 rfl N .no _
def jlp : Sh := ⟨dz 3 (pI :: .dead :: .dead :: .pv Y20 :: pI :: pI :: dz 9 []), []⟩
def jbe (N : Nat) (d : List Int) : Z11 :=
 (iter (fun i (b, f, c, a) => bif decide (a < c) then oB (idx f a) fun e => (bif !decide (e = b) then some e else if fits (a + 1) then i (b, f, c, (a + 1)) else none) else some b) N ((0 : Int), d, (d.length : Int), (0 : Int)))
theorem jhC (N : Nat) : mK 122 ⟨⟨[.pv Y20], []⟩, ⟨[pI], []⟩, c1A (jbe N)⟩ :=
 mO ja Tryz.func122 rfl N (.seq .no (.seq .no (.seq (.seq .no (.block (.loop jlp .no))) .no))) _
def je (N : Nat) (a : List UInt8) (f : List UInt8) (i : Z3) (c : List UInt8) (d : List UInt8) (j : Z3) : Z11 :=
 (oB (jam N a c) fun e => oB (jam N f d) fun b => oB (jbe N ([e, b] : List Int)) fun h => some h)
theorem jaf (N : Nat) : mK 160 ⟨⟨[.agg [pS, pS, .pv Y11], .agg [pS, pS, .pv Y11]], []⟩, ⟨[pI], []⟩, c6A (je N)⟩ :=
 mO (fC (ji2 N) (fC (jhC N) ja)) Tryz.func160 rfl N .no _
def k_slices_nextPowerOfTwo_m (N : Nat) (b : Int) : Z11 :=
 (oB (k_math_bits_Len_m N (IntKind.u64.wrap b)) fun a => if 0 ≤ a then some (IntKind.u64.wrap ((1 : Int) * 2 ^ (min a.toNat (IntKind.bits .u64)))) else none)
theorem jhv (N : Nat) : mK 255 ⟨⟨[pI], []⟩, ⟨[.pv (.int .u64)], []⟩, c1A (k_slices_nextPowerOfTwo_m N)⟩ :=
 mO (fC (jda N) ja) Tryz.func255 rfl N .no _
end Go.Proofs.YtobfngpkemkojaaGreatDoor
