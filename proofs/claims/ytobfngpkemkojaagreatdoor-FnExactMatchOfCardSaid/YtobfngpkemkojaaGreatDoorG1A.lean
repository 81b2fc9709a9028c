import Derived.Test.YtobfngpkemkojaaGreatDoorSJ
set_option linter.unusedVariables false
set_option linter.unusedSimpArgs false
namespace Go.Proofs.YtobfngpkemkojaaGreatDoor
open Go.RowKit
open Option renaming bind → oB
set_option maxRecDepth 1000000
abbrev Z0 : Type := List UInt8
abbrev Z1 : Type := Z0 × Z0 × (List (Int × (List Int)))
abbrev Z2 : Type := Int × (List (Z0 × Z0)) × (List (Z0 × Int))
abbrev Z3 : Type := List (Int × (List Int))
abbrev Z4 : Type := (List Z0) × Z0
abbrev Z5 : Type := List (Z0 × Int)
abbrev Z6 : Type := Option (Bool)
abbrev Z7 : Type := List (Z0 × Int)
abbrev Z8 : Type := Z0 × Int × Int × Int
abbrev Z9 : Type := Option (Int)
abbrev Z10 : Type := List (Int × (List Int))
abbrev Z11 : Type := List (Z0 × Z0)
abbrev Z12 : Type := ((List Z0) × (List Z4)) × (List Z2) × (List Z1)
abbrev Z13 : Type := Int × Z0 × (List Z0) × Int × Int × (List DQ)
abbrev Z14 : Type := List (Z0 × Z0)
abbrev Z15 : Type := Int × Z0 × (List Z0) × Int × Int × (List DQ) × Int × Z0 × (List Z0) × Int × Int × (List DQ)
abbrev Z16 : Type := List (List Int)
abbrev Z17 : Type := Z0 × Z0 × (List Int) × Int × Int × Int
abbrev Z18 : Type := Int × Int × Z0 × (List Z0) × Int × Int × (List DQ) × Bool × Int × Int × Int × Int × Bool × Int × Int
abbrev Z20 : Type := Int × Z0 × (List Z0) × Int × Int × (List DQ) × Int
abbrev mK := ModelOk Tryz.prog
theorem mO {l : List (Nat × Model)} (hl : jR Tryz.prog l) {f : FuncId} {fn : Func} {c : Code} (hf : Tryz.prog.funcs[f]? = some fn) (hbody : fn.body = some c) (N : Nat) (h : Hint) (m : Model) (wr rs dw : List Nat := [])
  (hname : (fn.name == "runtime.NumGoroutine") = false := by kernel_rfl) (hres : m.arg.names.all (jbC l wr rs dw).res = true := by kernel_rfl) (hlen : Nat.ble m.arg.vals.length fn.ntmps = true := by kernel_rfl)
  (hrun : ∀ a, m.run a = runF N (jbC l wr rs dw) okDraw fn c h m.arg m.ret a := by intro a; kernel_rfl) : ModelOk Tryz.prog f m := modelOk_of (E := jbC l wr rs dw) (jtQ hl wr rs dw) hf hname hbody N h m hres hlen hrun
theorem fC {k : Nat} {m : Model} {l : List (Nat × Model)} (h : ModelOk Tryz.prog k m) (hl : jR Tryz.prog l) : jR Tryz.prog ((k, m) :: l) := jsH h hl
abbrev pI : VS := .pv (.int .i64)
abbrev pS : VS := .pv .str
abbrev pB : VS := .pv .bool
abbrev tI : Tp := .int .i64
abbrev c1A {α ρ : Type} (f : α → ρ) (a : α) : ρ := f a
abbrev c2A {α0 α1 ρ : Type} (f : α0 → α1 → ρ) (a : α0 × α1) : ρ := f a.1 a.2
abbrev c3A {α0 α1 α2 ρ : Type} (f : α0 → α1 → α2 → ρ) (a : α0 × α1 × α2) : ρ := f a.1 a.2.1 a.2.2
abbrev c4A {α0 α1 α2 α3 ρ : Type} (f : α0 → α1 → α2 → α3 → ρ) (a : α0 × α1 × α2 × α3) : ρ := f a.1 a.2.1 a.2.2.1 a.2.2.2
abbrev c5A {α0 α1 α2 α3 α4 ρ : Type} (f : α0 → α1 → α2 → α3 → α4 → ρ) (a : α0 × α1 × α2 × α3 × α4) : ρ := f a.1 a.2.1 a.2.2.1 a.2.2.2.1 a.2.2.2.2
abbrev c6A {α0 α1 α2 α3 α4 α5 ρ : Type} (f : α0 → α1 → α2 → α3 → α4 → α5 → ρ) (a : α0 × α1 × α2 × α3 × α4 × α5) : ρ := f a.1 a.2.1 a.2.2.1 a.2.2.2.1 a.2.2.2.2.1 a.2.2.2.2.2
abbrev c7A {α0 α1 α2 α3 α4 α5 α6 ρ : Type} (f : α0 → α1 → α2 → α3 → α4 → α5 → α6 → ρ) (a : α0 × α1 × α2 × α3 × α4 × α5 × α6) : ρ := f a.1 a.2.1 a.2.2.1 a.2.2.2.1 a.2.2.2.2.1 a.2.2.2.2.2.1 a.2.2.2.2.2.2
abbrev c9A {α0 α1 α2 α3 α4 α5 α6 α7 α8 ρ : Type} (f : α0 → α1 → α2 → α3 → α4 → α5 → α6 → α7 → α8 → ρ) (a : α0 × α1 × α2 × α3 × α4 × α5 × α6 × α7 × α8) : ρ := f a.1 a.2.1 a.2.2.1 a.2.2.2.1 a.2.2.2.2.1 a.2.2.2.2.2.1 a.2.2.2.2.2.2.1 a.2.2.2.2.2.2.2.1 a.2.2.2.2.2.2.2.2
abbrev c10A {α0 α1 α2 α3 α4 α5 α6 α7 α8 α9 ρ : Type} (f : α0 → α1 → α2 → α3 → α4 → α5 → α6 → α7 → α8 → α9 → ρ) (a : α0 × α1 × α2 × α3 × α4 × α5 × α6 × α7 × α8 × α9) : ρ := f a.1 a.2.1 a.2.2.1 a.2.2.2.1 a.2.2.2.2.1 a.2.2.2.2.2.1 a.2.2.2.2.2.2.1 a.2.2.2.2.2.2.2.1 a.2.2.2.2.2.2.2.2.1 a.2.2.2.2.2.2.2.2.2
abbrev c11A {α0 α1 α2 α3 α4 α5 α6 α7 α8 α9 α10 ρ : Type} (f : α0 → α1 → α2 → α3 → α4 → α5 → α6 → α7 → α8 → α9 → α10 → ρ) (a : α0 × α1 × α2 × α3 × α4 × α5 × α6 × α7 × α8 × α9 × α10) : ρ := f a.1 a.2.1 a.2.2.1 a.2.2.2.1 a.2.2.2.2.1 a.2.2.2.2.2.1 a.2.2.2.2.2.2.1 a.2.2.2.2.2.2.2.1 a.2.2.2.2.2.2.2.2.1 a.2.2.2.2.2.2.2.2.2.1 a.2.2.2.2.2.2.2.2.2.2
abbrev c12A {α0 α1 α2 α3 α4 α5 α6 α7 α8 α9 α10 α11 ρ : Type} (f : α0 → α1 → α2 → α3 → α4 → α5 → α6 → α7 → α8 → α9 → α10 → α11 → ρ) (a : α0 × α1 × α2 × α3 × α4 × α5 × α6 × α7 × α8 × α9 × α10 × α11) : ρ := f a.1 a.2.1 a.2.2.1 a.2.2.2.1 a.2.2.2.2.1 a.2.2.2.2.2.1 a.2.2.2.2.2.2.1 a.2.2.2.2.2.2.2.1 a.2.2.2.2.2.2.2.2.1 a.2.2.2.2.2.2.2.2.2.1 a.2.2.2.2.2.2.2.2.2.2.1 a.2.2.2.2.2.2.2.2.2.2.2
def dz : Nat → List VS → List VS
 | 0, l => l
 | n + 1, l => .dead :: dz n l
abbrev Y20 : Tp := .sl tI
abbrev Y19 : Tp := .pair .str .str
abbrev Y18 : Tp := .sl (.pair .str .str)
abbrev Y17 : Tp := .pair (.sl .str) .str
abbrev Y16 : Tp := .pair .str tI
abbrev Y15 : Tp := .sl (.pair (.sl .str) .str)
abbrev Y14 : Tp := .sl (.pair .str tI)
abbrev Y13 : Tp := .pair tI tI
abbrev Y12 : Tp := .pair tI (.sl tI)
abbrev Y11 : Tp := .sl (.pair tI (.sl tI))
abbrev Y6 : Tp := .pair .str (.pair tI (.pair tI tI))
abbrev Y5 : Tp := .pair .str (.pair .str (.sl (.pair tI (.sl tI))))
abbrev Y4 : Tp := .sl (.pair .str (.pair .str (.sl (.pair tI (.sl tI)))))
abbrev Y3 : Tp := .pair tI (.pair (.sl (.pair .str .str)) (.sl (.pair .str tI)))
abbrev Y2 : Tp := .sl (.pair tI (.pair (.sl (.pair .str .str)) (.sl (.pair .str tI))))
abbrev Y1 : Tp := .pair (.sl (.pair tI (.pair (.sl (.pair .str .str)) (.sl (.pair .str tI))))) (.sl (.pair .str (.pair .str (.sl (.pair tI (.sl tI))))))
abbrev Y0 : Tp := .pair (.pair (.sl .str) (.sl (.pair (.sl .str) .str))) (.pair (.sl (.pair tI (.pair (.sl (.pair .str .str)) (.sl (.pair .str tI))))) (.sl (.pair .str (.pair .str (.sl (.pair tI (.sl tI)))))))
def jso : Sh := ⟨.pv (.sl .str) :: pI :: dz 3 (pI :: dz 22 []), []⟩
def jbK (N : Nat) (c : List Z0) (d : Int) : Z9 :=
 (if fits (d - (c.length : Int)) then bif decide ((d - (c.length : Int)) < 0) then some (-1) else (iter (fun i (e, a, b) => bif decide (b < (e.length : Int)) then oB (idx e b) fun f => (if fits (a - (f.length : Int)) then bif decide ((a - (f.length : Int)) < 0) then some (-1) else (if fits (b + 1) then i (e, (a - (f.length : Int)), (b + 1)) else none) else none) else some a) N (c, (d - (c.length : Int)), (0 : Int))) else none)
theorem jjn (N : Nat) : mK 43 ⟨⟨[.pv (.sl .str), pI], []⟩, ⟨[pI], []⟩, c2A (jbK N)⟩ :=
 mO ja Tryz.func43 rfl N (.seq .no (.seq .no (.seq .no (.seq (.seq .no (.block (.loop jso .no))) .no)))) _
def jbp (N : Nat) (d : List Z0) (b : List UInt8) (c : Int) : Z9 :=
 (oB (jbK N d c) fun a => bif decide (a < 0) then some (-1) else if fits (a - (b.length : Int)) then bif decide ((a - (b.length : Int)) < 0) then some (-1) else (some (a - (b.length : Int))) else none)
theorem jsV (N : Nat) : mK 82 ⟨⟨[.agg [.pv (.sl .str), pS], pI], []⟩, ⟨[pI], []⟩, c3A (jbp N)⟩ :=
 mO (fC (jjn N) ja) Tryz.func82 rfl N .no _
def jki : Sh := ⟨.pv Y15 :: pI :: dz 3 (pI :: dz 21 []), []⟩
def jc6 (N : Nat) (b : List Z4) (c : Int) : Z9 :=
 (if fits (c - (b.length : Int)) then bif decide ((c - (b.length : Int)) < 0) then some (-1) else (iter (fun j (d, e, a) => bif decide (a < (d.length : Int)) then oB (idx d a) fun h => (oB (jbp N h.1 h.2 e) fun f => bif decide (f < 0) then some (-1) else if fits (a + 1) then j (d, f, (a + 1)) else none) else some e) N (b, (c - (b.length : Int)), (0 : Int))) else none)
theorem jkX (N : Nat) : mK 44 ⟨⟨[.pv Y15, pI], []⟩, ⟨[pI], []⟩, c2A (jc6 N)⟩ :=
 mO (fC (jsV N) ja) Tryz.func44 rfl N (.seq .no (.seq .no (.seq .no (.seq (.seq .no (.block (.loop jki .no))) .no)))) _
def l_szConf_m (N : Nat) (d : List Z0) (e : List Z4) (c : Int) : Z9 :=
 (oB (jbK N d c) fun b => bif decide (b < 0) then some (-1) else oB (jc6 N e b) fun a => bif decide (a < 0) then some (-1) else some a)
theorem jm8 (N : Nat) : mK 9 ⟨⟨[.agg [.pv (.sl .str), .pv Y15], pI], []⟩, ⟨[pI], []⟩, c3A (l_szConf_m N)⟩ :=
 mO (fC (jjn N) (fC (jkX N) ja)) Tryz.func9 rfl N .no _
def jaN (N : Nat) (b : List UInt8) (c : List UInt8) (a : Int) : Z9 :=
 (if fits (a - (b.length : Int)) then bif decide ((a - (b.length : Int)) < 0) then some (-1) else (if fits ((a - (b.length : Int)) - (c.length : Int)) then bif decide (((a - (b.length : Int)) - (c.length : Int)) < 0) then some (-1) else (some ((a - (b.length : Int)) - (c.length : Int))) else none) else none)
theorem jpy (N : Nat) : mK 178 ⟨⟨[.agg [pS, pS], pI], []⟩, ⟨[pI], []⟩, c3A (jaN N)⟩ :=
 mO ja Tryz.func178 rfl N .no _
def jms : Sh := ⟨.pv Y18 :: pI :: dz 3 (pI :: dz 21 []), []⟩
def jdb (N : Nat) (b : Z14) (c : Int) : Z9 :=
 (if fits (c - (b.length : Int)) then bif decide ((c - (b.length : Int)) < 0) then some (-1) else (iter (fun j (d, e, a) => bif decide (a < (d.length : Int)) then oB (idx d a) fun h => (oB (jaN N h.1 h.2 e) fun f => bif decide (f < 0) then some (-1) else if fits (a + 1) then j (d, f, (a + 1)) else none) else some e) N (b, (c - (b.length : Int)), (0 : Int))) else none)
theorem jns (N : Nat) : mK 124 ⟨⟨[.pv Y18, pI], []⟩, ⟨[pI], []⟩, c2A (jdb N)⟩ :=
 mO (fC (jpy N) ja) Tryz.func124 rfl N (.seq .no (.seq .no (.seq .no (.seq (.seq .no (.block (.loop jms .no))) .no)))) _
def jaT (N : Nat) (b : List UInt8) (c : Int) (a : Int) : Z9 :=
 (if fits (a - (b.length : Int)) then bif decide ((a - (b.length : Int)) < 0) then some (-1) else (some (a - (b.length : Int))) else none)
theorem joe (N : Nat) : mK 179 ⟨⟨[.agg [pS, pI], pI], []⟩, ⟨[pI], []⟩, c3A (jaT N)⟩ :=
 mO ja Tryz.func179 rfl N .no _
def jkA : Sh := ⟨.pv Y14 :: pI :: dz 3 (pI :: dz 21 []), []⟩
def jdV (N : Nat) (b : Z7) (c : Int) : Z9 :=
 (if fits (c - (b.length : Int)) then bif decide ((c - (b.length : Int)) < 0) then some (-1) else (iter (fun j (d, e, a) => bif decide (a < (d.length : Int)) then oB (idx d a) fun h => (oB (jaT N h.1 h.2 e) fun f => bif decide (f < 0) then some (-1) else if fits (a + 1) then j (d, f, (a + 1)) else none) else some e) N (b, (c - (b.length : Int)), (0 : Int))) else none)
theorem jn5 (N : Nat) : mK 125 ⟨⟨[.pv Y14, pI], []⟩, ⟨[pI], []⟩, c2A (jdV N)⟩ :=
 mO (fC (joe N) ja) Tryz.func125 rfl N (.seq .no (.seq .no (.seq .no (.seq (.seq .no (.block (.loop jkA .no))) .no)))) _
def jbq (N : Nat) (f : Int) (e : Z14) (d : Z7) (c : Int) : Z9 :=
 (oB (jdb N e c) fun b => bif decide (b < 0) then some (-1) else oB (jdV N d b) fun a => bif decide (a < 0) then some (-1) else some a)
theorem jnC (N : Nat) : mK 83 ⟨⟨[.agg [pI, .pv Y18, .pv Y14], pI], []⟩, ⟨[pI], []⟩, c4A (jbq N)⟩ :=
 mO (fC (jns N) (fC (jn5 N) ja)) Tryz.func83 rfl N .no _
def jqA : Sh := ⟨.pv Y2 :: pI :: dz 3 (pI :: dz 21 []), []⟩
def jdo (N : Nat) (b : List Z2) (c : Int) : Z9 :=
 (if fits (c - (b.length : Int)) then bif decide ((c - (b.length : Int)) < 0) then some (-1) else (iter (fun j (d, f, a) => bif decide (a < (d.length : Int)) then oB (idx d a) fun e => (oB (jbq N e.1 e.2.1 e.2.2 f) fun h => bif decide (h < 0) then some (-1) else if fits (a + 1) then j (d, h, (a + 1)) else none) else some f) N (b, (c - (b.length : Int)), (0 : Int))) else none)
theorem jsn (N : Nat) : mK 45 ⟨⟨[.pv Y2, pI], []⟩, ⟨[pI], []⟩, c2A (jdo N)⟩ :=
 mO (fC (jnC N) ja) Tryz.func45 rfl N (.seq .no (.seq .no (.seq .no (.seq (.seq .no (.block (.loop jqA .no))) .no)))) _
def jeb (N : Nat) (b : List Int) (a : Int) : Z9 :=
 (if fits (a - (b.length : Int)) then bif decide ((a - (b.length : Int)) < 0) then some (-1) else (some (a - (b.length : Int))) else none)
theorem jm4 (N : Nat) : mK 232 ⟨⟨[.pv Y20, pI], []⟩, ⟨[pI], []⟩, c2A (jeb N)⟩ :=
 mO ja Tryz.func232 rfl N .no _
def jbb (N : Nat) (d : Int) (c : List Int) (b : Int) : Z9 :=
 (oB (jeb N c b) fun a => bif decide (a < 0) then some (-1) else some a)
theorem jsZ (N : Nat) : mK 180 ⟨⟨[.agg [pI, .pv Y20], pI], []⟩, ⟨[pI], []⟩, c3A (jbb N)⟩ :=
 mO (fC (jm4 N) ja) Tryz.func180 rfl N .no _
def joP : Sh := ⟨.pv Y11 :: pI :: dz 3 (pI :: dz 21 []), []⟩
def jdz (N : Nat) (b : Z3) (c : Int) : Z9 :=
 (if fits (c - (b.length : Int)) then bif decide ((c - (b.length : Int)) < 0) then some (-1) else (iter (fun j (d, e, a) => bif decide (a < (d.length : Int)) then oB (idx d a) fun h => (oB (jbb N h.1 h.2 e) fun f => bif decide (f < 0) then some (-1) else if fits (a + 1) then j (d, f, (a + 1)) else none) else some e) N (b, (c - (b.length : Int)), (0 : Int))) else none)
theorem jnZ (N : Nat) : mK 126 ⟨⟨[.pv Y11, pI], []⟩, ⟨[pI], []⟩, c2A (jdz N)⟩ :=
 mO (fC (jsZ N) ja) Tryz.func126 rfl N (.seq .no (.seq .no (.seq .no (.seq (.seq .no (.block (.loop joP .no))) .no)))) _
def jbj (N : Nat) (b : List UInt8) (c : List UInt8) (e : Z3) (a : Int) : Z9 :=
 (if fits (a - (b.length : Int)) then bif decide ((a - (b.length : Int)) < 0) then some (-1) else (if fits ((a - (b.length : Int)) - (c.length : Int)) then bif decide (((a - (b.length : Int)) - (c.length : Int)) < 0) then some (-1) else (oB (jdz N e ((a - (b.length : Int)) - (c.length : Int))) fun d => bif decide (d < 0) then some (-1) else some d) else none) else none)
theorem joB (N : Nat) : mK 84 ⟨⟨[.agg [pS, pS, .pv Y11], pI], []⟩, ⟨[pI], []⟩, c4A (jbj N)⟩ :=
 mO (fC (jnZ N) ja) Tryz.func84 rfl N .no _
def jtA : Sh := ⟨.pv Y4 :: pI :: dz 3 (pI :: dz 21 []), []⟩
def jej (N : Nat) (b : List Z1) (c : Int) : Z9 :=
 (if fits (c - (b.length : Int)) then bif decide ((c - (b.length : Int)) < 0) then some (-1) else (iter (fun j (d, f, a) => bif decide (a < (d.length : Int)) then oB (idx d a) fun e => (oB (jbj N e.1 e.2.1 e.2.2 f) fun h => bif decide (h < 0) then some (-1) else if fits (a + 1) then j (d, h, (a + 1)) else none) else some f) N (b, (c - (b.length : Int)), (0 : Int))) else none)
theorem jrU (N : Nat) : mK 46 ⟨⟨[.pv Y4, pI], []⟩, ⟨[pI], []⟩, c2A (jej N)⟩ :=
 mO (fC (joB N) ja) Tryz.func46 rfl N (.seq .no (.seq .no (.seq .no (.seq (.seq .no (.block (.loop jtA .no))) .no)))) _
def l_szSeg_m (N : Nat) (d : List Z2) (e : List Z1) (c : Int) : Z9 :=
 (oB (jdo N d c) fun b => bif decide (b < 0) then some (-1) else oB (jej N e b) fun a => bif decide (a < 0) then some (-1) else some a)
theorem jpO (N : Nat) : mK 10 ⟨⟨[.agg [.pv Y2, .pv Y4], pI], []⟩, ⟨[pI], []⟩, c3A (l_szSeg_m N)⟩ :=
 mO (fC (jsn N) (fC (jrU N) ja)) Tryz.func10 rfl N .no _
def jzT : Sh := ⟨[.agg [pI, pS, .pv (.sl .str), pI, pI, .pv (.sl .q)], pI], []⟩
def jAp : Sh := ⟨[pI], []⟩
def jDq : Sh := ⟨[.pv (.sl .q), pI], []⟩
def jCU : Sh := ⟨[pI], []⟩
def jBx : Sh := ⟨.pv (.sl .q) :: pI :: dz 3 (pI :: dz 21 []), []⟩
def jzK (N : Nat) (j : Z20 → Option Int) (c : List DQ) (d : Int) : Z9 :=
 (if fits (d - (c.length : Int)) then bif decide ((d - (c.length : Int)) < 0) then some (-1) else (iter (fun k (e, f, b) => bif decide (b < (e.length : Int)) then oB (idx e b) fun a => (oB (j (a.kind, a.field, a.words, a.lo, a.hi, a.kids, f)) fun h => bif decide (h < 0) then some (-1) else if fits (b + 1) then k (e, h, (b + 1)) else none) else some f) N (c, (d - (c.length : Int)), (0 : Int))) else none)
def jAt (N : Nat) (F : Z20 → Option Int) : Model := ⟨jDq, jCU, fun a => jzK N F a.1 a.2⟩
theorem jCA (N : Nat) (F : Z20 → Option Int) (hF : mK 11 ⟨jzT, jAp, F⟩) : mK 47 (jAt N F) :=
 mO (fC hF ja) Tryz.func47 rfl N (.seq .no (.seq .no (.seq .no (.seq (.seq .no (.block (.loop jBx .no))) .no)))) (jAt N F)
def l_szQuery_m (N : Nat) : (D : Nat) → Int → Z0 → (List Z0) → Int → Int → (List DQ) → Int → Z9
 | 0, _, _, _, _, _, _, _ => none
 | D + 1, a, a2, a3, a4, a5, a6, left =>
 if fits (left - (a2.length : Int)) then bif decide ((left - (a2.length : Int)) < 0) then
 some (-1)
 else
 (oB (jbK N a3 (left - (a2.length : Int))) fun r =>
 bif decide (r < 0) then
 some (-1)
 else
 oB (jzK N (fun a => l_szQuery_m N D a.1 a.2.1 a.2.2.1 a.2.2.2.1 a.2.2.2.2.1 a.2.2.2.2.2.1 a.2.2.2.2.2.2) a6 r) fun r2 =>
 bif decide (r2 < 0) then
 some (-1)
 else
 some r2) else none
def jya (N D : Nat) : Model := ⟨jzT, jAp, c7A (l_szQuery_m N D)⟩
theorem jBb (N D : Nat) (ih : mK 11 (jya N D)) : mK 11 (jya N (D + 1)) :=
 mO (fC ih (fC (jjn N) (fC (jCA N _ ih) ja))) Tryz.func11 rfl N .no (jya N (D + 1))
theorem jzH (N : Nat) : ∀ D, mK 11 (jya N D)
 | 0 => modelOk_none ⟨_, Tryz.func11, by decide, by kernel_rfl⟩ _ (fun a => rfl)
 | D + 1 => jBb N D (jzH N D)
def jqD : Sh := ⟨.pv (.sl .str) :: .dead :: .dead :: .mtk 600003 .str 9 true :: pI :: dz 17 [], []⟩
def jci (N : Nat) (b : List Z0) : Option ((List Z0)) :=
 (if (b.length : Int) = (b.length : Int) ∧ 0 ≤ (b.length : Int) ∧ (b.length : Int) * 16 ≤ 140737488355328 ∧ (b.length : Int) ≤ 140737488355328 then iter (fun f (d, c, a) => bif decide (a < (d.length : Int)) then oB (idx d a) fun h => (if 0 ≤ a ∧ a < (c.length : Int) then oB (c[a.toNat]?) fun i => (if fits (a + 1) then f (d, (c.set a.toNat h), (a + 1)) else none) else none) else some c) N (b, (List.replicate (b.length : Int).toNat ([] : List UInt8)), (0 : Int)) else none)
theorem jiJ (N : Nat) : mK 52 ⟨⟨[.pv (.sl .str)], []⟩, ⟨[.own 1 .str 9 true], []⟩, c1A (jci N)⟩ :=
 mO ja Tryz.func52 rfl N (.seq .no (.seq .no (.seq (.seq .no (.block (.loop jqD .no))) .no))) _ (wr := [7])
def ja0 (N : Nat) (b : List Z0) (c : List UInt8) : Option Z4 :=
 (oB (jci N b) fun a => some (a, c))
theorem jr7 (N : Nat) : mK 97 ⟨⟨[.agg [.pv (.sl .str), pS]], []⟩, ⟨[.agg [.own 1 .str 9 true, pS]], []⟩, c2A (ja0 N)⟩ :=
 mO (fC (jiJ N) ja) Tryz.func97 rfl N .no _ (dw := [6])
def jos : Sh := ⟨.pv Y15 :: .dead :: .dead :: .tre 600003 Y17 144 :: pI :: dz 18 [], []⟩
def jeh (N : Nat) (b : List Z4) : Option ((List Z4)) :=
 (if (b.length : Int) = (b.length : Int) ∧ 0 ≤ (b.length : Int) ∧ (b.length : Int) * 40 ≤ 140737488355328 ∧ (b.length : Int) ≤ 140737488355328 then iter (fun h (d, c, a) => bif decide (a < (d.length : Int)) then oB (idx d a) fun e => (oB (ja0 N e.1 e.2) fun i => if 0 ≤ a ∧ a < (c.length : Int) then oB (c[a.toNat]?) fun j => (if fits (a + 1) then h (d, (c.set a.toNat i), (a + 1)) else none) else none) else some c) N (b, (List.replicate (b.length : Int).toNat (([] : List Z0), ([] : List UInt8))), (0 : Int)) else none)
theorem jqR (N : Nat) : mK 53 ⟨⟨[.pv Y15], []⟩, ⟨[.own 1 Y17 144 true], []⟩, c1A (jeh N)⟩ :=
 mO (fC (jr7 N) ja) Tryz.func53 rfl N (.seq .no (.seq .no (.seq (.seq .no (.block (.loop jos .no))) .no))) _ (wr := [7]) (dw := [20])
def jad (N : Nat) (c : List Z0) (d : List Z4) : Option ((List Z0) × (List Z4)) :=
 (oB (jci N c) fun b => oB (jeh N d) fun a => some (b, a))
theorem jtJ (N : Nat) : mK 13 ⟨⟨[.agg [.pv (.sl .str), .pv Y15]], []⟩, ⟨[.agg [.own 1 .str 9 true, .own 2 Y17 144 true]], []⟩, c2A (jad N)⟩ :=
 mO (fC (jiJ N) (fC (jqR N) ja)) Tryz.func13 rfl N .no _ (dw := [6, 10])
def jaW (N : Nat) (a : List UInt8) (b : List UInt8) : Option (Z0 × Z0) :=
 (some (a, b))
theorem jlT (N : Nat) : mK 196 ⟨⟨[.agg [pS, pS]], []⟩, ⟨[.agg [pS, pS]], []⟩, c2A (jaW N)⟩ :=
 mO ja Tryz.func196 rfl N .no _
def jp2 : Sh := ⟨.pv Y18 :: .dead :: .dead :: .mtk 600003 Y19 199 true :: pI :: dz 18 [], []⟩
def jdS (N : Nat) (b : Z14) : Option (Z11) :=
 (if (b.length : Int) = (b.length : Int) ∧ 0 ≤ (b.length : Int) ∧ (b.length : Int) * 32 ≤ 140737488355328 ∧ (b.length : Int) ≤ 140737488355328 then iter (fun h (d, c, a) => bif decide (a < (d.length : Int)) then oB (idx d a) fun e => (oB (jaW N e.1 e.2) fun i => if 0 ≤ a ∧ a < (c.length : Int) then oB (c[a.toNat]?) fun j => (if fits (a + 1) then h (d, (c.set a.toNat i), (a + 1)) else none) else none) else some c) N (b, (List.replicate (b.length : Int).toNat (([] : List UInt8), ([] : List UInt8))), (0 : Int)) else none)
theorem jmr (N : Nat) : mK 148 ⟨⟨[.pv Y18], []⟩, ⟨[.own 1 Y19 199 true], []⟩, c1A (jdS N)⟩ :=
 mO (fC (jlT N) ja) Tryz.func148 rfl N (.seq .no (.seq .no (.seq (.seq .no (.block (.loop jp2 .no))) .no))) _ (wr := [7]) (dw := [20])
def jaX (N : Nat) (a : List UInt8) (b : Int) : Option (Z0 × Int) :=
 (some (a, b))
theorem jnE (N : Nat) : mK 197 ⟨⟨[.agg [pS, pI]], []⟩, ⟨[.agg [pS, pI]], []⟩, c2A (jaX N)⟩ :=
 mO ja Tryz.func197 rfl N .no _
def jpn : Sh := ⟨.pv Y14 :: .dead :: .dead :: .mtk 600003 Y16 192 true :: pI :: dz 18 [], []⟩
def jd3 (N : Nat) (b : Z7) : Option (Z5) :=
 (if (b.length : Int) = (b.length : Int) ∧ 0 ≤ (b.length : Int) ∧ (b.length : Int) * 24 ≤ 140737488355328 ∧ (b.length : Int) ≤ 140737488355328 then iter (fun h (d, c, a) => bif decide (a < (d.length : Int)) then oB (idx d a) fun e => (oB (jaX N e.1 e.2) fun i => if 0 ≤ a ∧ a < (c.length : Int) then oB (c[a.toNat]?) fun j => (if fits (a + 1) then h (d, (c.set a.toNat i), (a + 1)) else none) else none) else some c) N (b, (List.replicate (b.length : Int).toNat (([] : List UInt8), 0)), (0 : Int)) else none)
theorem jqJ (N : Nat) : mK 149 ⟨⟨[.pv Y14], []⟩, ⟨[.own 1 Y16 192 true], []⟩, c1A (jd3 N)⟩ :=
 mO (fC (jnE N) ja) Tryz.func149 rfl N (.seq .no (.seq .no (.seq (.seq .no (.block (.loop jpn .no))) .no))) _ (wr := [7]) (dw := [20])
def jbv (N : Nat) (d : Int) (e : Z14) (c : Z7) : Option Z2 :=
 (oB (jdS N e) fun b => oB (jd3 N c) fun a => some (d, b, a))
theorem jsM (N : Nat) : mK 98 ⟨⟨[.agg [pI, .pv Y18, .pv Y14]], []⟩, ⟨[.agg [pI, .own 1 Y19 199 true, .own 2 Y16 192 true]], []⟩, c3A (jbv N)⟩ :=
 mO (fC (jmr N) (fC (jqJ N) ja)) Tryz.func98 rfl N .no _ (dw := [9, 13])
def jmB : Sh := ⟨.pv Y2 :: .dead :: .dead :: .tre 600003 Y3 88 :: pI :: dz 18 [], []⟩
def jdO (N : Nat) (b : List Z2) : Option ((List Z2)) :=
 (if (b.length : Int) = (b.length : Int) ∧ 0 ≤ (b.length : Int) ∧ (b.length : Int) * 56 ≤ 140737488355328 ∧ (b.length : Int) ≤ 140737488355328 then iter (fun h (d, c, a) => bif decide (a < (d.length : Int)) then oB (idx d a) fun e => (oB (jbv N e.1 e.2.1 e.2.2) fun i => if 0 ≤ a ∧ a < (c.length : Int) then oB (c[a.toNat]?) fun j => (if fits (a + 1) then h (d, (c.set a.toNat i), (a + 1)) else none) else none) else some c) N (b, (List.replicate (b.length : Int).toNat (0, ([] : Z14), ([] : Z7))), (0 : Int)) else none)
theorem jsQ (N : Nat) : mK 54 ⟨⟨[.pv Y2], []⟩, ⟨[.own 1 Y3 88 true], []⟩, c1A (jdO N)⟩ :=
 mO (fC (jsM N) ja) Tryz.func54 rfl N (.seq .no (.seq .no (.seq (.seq .no (.block (.loop jmB .no))) .no))) _ (wr := [7]) (dw := [20])
def jng : Sh := ⟨.pv Y20 :: .dead :: .dead :: .mtk 600003 tI 3 true :: pI :: dz 17 [], []⟩
def jek (N : Nat) (b : List Int) : Option ((List Int)) :=
 (if (b.length : Int) = (b.length : Int) ∧ 0 ≤ (b.length : Int) ∧ (b.length : Int) * 8 ≤ 140737488355328 ∧ (b.length : Int) ≤ 140737488355328 then iter (fun f (d, c, a) => bif decide (a < (d.length : Int)) then oB (idx d a) fun h => (if 0 ≤ a ∧ a < (c.length : Int) then oB (c[a.toNat]?) fun i => (if fits (a + 1) then f (d, (c.set a.toNat h), (a + 1)) else none) else none) else some c) N (b, (List.replicate (b.length : Int).toNat 0), (0 : Int)) else none)
theorem jqI (N : Nat) : mK 237 ⟨⟨[.pv Y20], []⟩, ⟨[.own 1 tI 3 true], []⟩, c1A (jek N)⟩ :=
 mO ja Tryz.func237 rfl N (.seq .no (.seq .no (.seq (.seq .no (.block (.loop jng .no))) .no))) _ (wr := [7])
def jbr (N : Nat) (b : Int) (c : List Int) : Option (Int × (List Int)) :=
 (oB (jek N c) fun a => some (b, a))
theorem jks (N : Nat) : mK 198 ⟨⟨[.agg [pI, .pv Y20]], []⟩, ⟨[.agg [pI, .own 1 tI 3 true]], []⟩, c2A (jbr N)⟩ :=
 mO (fC (jqI N) ja) Tryz.func198 rfl N .no _ (dw := [9])
def joy : Sh := ⟨.pv Y11 :: .dead :: .dead :: .tre 600003 Y12 175 :: pI :: dz 18 [], []⟩
def jdx (N : Nat) (b : Z3) : Option (Z10) :=
 (if (b.length : Int) = (b.length : Int) ∧ 0 ≤ (b.length : Int) ∧ (b.length : Int) * 32 ≤ 140737488355328 ∧ (b.length : Int) ≤ 140737488355328 then iter (fun h (d, c, a) => bif decide (a < (d.length : Int)) then oB (idx d a) fun e => (oB (jbr N e.1 e.2) fun i => if 0 ≤ a ∧ a < (c.length : Int) then oB (c[a.toNat]?) fun j => (if fits (a + 1) then h (d, (c.set a.toNat i), (a + 1)) else none) else none) else some c) N (b, (List.replicate (b.length : Int).toNat (0, ([] : List Int))), (0 : Int)) else none)
theorem jpe (N : Nat) : mK 150 ⟨⟨[.pv Y11], []⟩, ⟨[.own 1 Y12 175 true], []⟩, c1A (jdx N)⟩ :=
 mO (fC (jks N) ja) Tryz.func150 rfl N (.seq .no (.seq .no (.seq (.seq .no (.block (.loop joy .no))) .no))) _ (wr := [7]) (dw := [20])
def jaM (N : Nat) (c : List UInt8) (d : List UInt8) (b : Z3) : Option Z1 :=
 (oB (jdx N b) fun a => some (c, d, a))
theorem jnB (N : Nat) : mK 99 ⟨⟨[.agg [pS, pS, .pv Y11]], []⟩, ⟨[.agg [pS, pS, .own 1 Y12 175 true]], []⟩, c3A (jaM N)⟩ :=
 mO (fC (jpe N) ja) Tryz.func99 rfl N .no _ (dw := [12])
def jk2 : Sh := ⟨.pv Y4 :: .dead :: .dead :: .tre 600003 Y5 136 :: pI :: dz 18 [], []⟩
def jd4 (N : Nat) (b : List Z1) : Option ((List Z1)) :=
 (if (b.length : Int) = (b.length : Int) ∧ 0 ≤ (b.length : Int) ∧ (b.length : Int) * 56 ≤ 140737488355328 ∧ (b.length : Int) ≤ 140737488355328 then iter (fun h (d, c, a) => bif decide (a < (d.length : Int)) then oB (idx d a) fun e => (oB (jaM N e.1 e.2.1 e.2.2) fun i => if 0 ≤ a ∧ a < (c.length : Int) then oB (c[a.toNat]?) fun j => (if fits (a + 1) then h (d, (c.set a.toNat i), (a + 1)) else none) else none) else some c) N (b, (List.replicate (b.length : Int).toNat (([] : List UInt8), ([] : List UInt8), ([] : Z3))), (0 : Int)) else none)
theorem jsC (N : Nat) : mK 55 ⟨⟨[.pv Y4], []⟩, ⟨[.own 1 Y5 136 true], []⟩, c1A (jd4 N)⟩ :=
 mO (fC (jnB N) ja) Tryz.func55 rfl N (.seq .no (.seq .no (.seq (.seq .no (.block (.loop jk2 .no))) .no))) _ (wr := [7]) (dw := [20])
def jZ (N : Nat) (c : List Z2) (d : List Z1) : Option ((List Z2) × (List Z1)) :=
 (oB (jdO N c) fun b => oB (jd4 N d) fun a => some (b, a))
theorem jqs (N : Nat) : mK 14 ⟨⟨[.agg [.pv Y2, .pv Y4]], []⟩, ⟨[.agg [.own 1 Y3 88 true, .own 2 Y5 136 true]], []⟩, c2A (jZ N)⟩ :=
 mO (fC (jsQ N) (fC (jsC N) ja)) Tryz.func14 rfl N .no _ (dw := [6, 10])
def jAj : Sh := ⟨[.agg [pI, pS, .pv (.sl .str), pI, pI, .pv (.sl .q)]], []⟩
def jAx : Sh := ⟨[.agg [pI, pS, .own 1 .str 9 true, pI, pI, .own 2 .q 48 true]], []⟩
def jCM : Sh := ⟨[.pv (.sl .q)], []⟩
def jCG : Sh := ⟨[.own 1 .q 48 true], []⟩
def jBg : Sh := ⟨.pv (.sl .q) :: .dead :: .dead :: .tre 600003 .q 48 :: pI :: dz 18 [], []⟩
def jyE (N : Nat) (h : Z13 → Option Z13) (b : List DQ) : Option ((List DQ)) :=
 (if (b.length : Int) = (b.length : Int) ∧ 0 ≤ (b.length : Int) ∧ (b.length : Int) * 88 ≤ 140737488355328 ∧ (b.length : Int) ≤ 140737488355328 then iter (fun i (f, e, a) => bif decide (a < (f.length : Int)) then oB (idx f a) fun d => (oB (h (d.kind, d.field, d.words, d.lo, d.hi, d.kids)) fun c => if 0 ≤ a ∧ a < (e.length : Int) then oB (e[a.toNat]?) fun k => (if fits (a + 1) then i (f, (e.set a.toNat (DQ.mk c.1 c.2.1 c.2.2.1 c.2.2.2.1 c.2.2.2.2.1 c.2.2.2.2.2)), (a + 1)) else none) else none) else some e) N (b, (List.replicate (b.length : Int).toNat (DQ.mk 0 ([] : List UInt8) ([] : List Z0) 0 0 ([] : List DQ))), (0 : Int)) else none)
def jAb (N : Nat) (F : Z13 → Option Z13) : Model := ⟨jCM, jCG, fun a => jyE N F a⟩
theorem jAY (N : Nat) (F : Z13 → Option Z13) (hF : mK 15 ⟨jAj, jAx, F⟩) : mK 56 (jAb N F) :=
 mO (fC hF ja) Tryz.func56 rfl N (.seq .no (.seq .no (.seq (.seq .no (.block (.loop jBg .no))) .no))) (jAb N F) (wr := [7]) (dw := [20])
def jxF (N : Nat) : (D : Nat) → Int → Z0 → (List Z0) → Int → Int → (List DQ) → Option Z13
 | 0, _, _, _, _, _, _ => none
 | D + 1, a, a2, a3, a4, a5, a6 =>
 oB (jci N a3) fun r =>
 oB (jyE N (fun a => jxF N D a.1 a.2.1 a.2.2.1 a.2.2.2.1 a.2.2.2.2.1 a.2.2.2.2.2) a6) fun r2 =>
 some (a, a2, r, a4, a5, r2)
def jx7 (N D : Nat) : Model := ⟨jAj, jAx, c6A (jxF N D)⟩
theorem jBK (N D : Nat) (ih : mK 15 (jx7 N D)) : mK 15 (jx7 N (D + 1)) :=
 mO (fC ih (fC (jiJ N) (fC (jAY N _ ih) ja))) Tryz.func15 rfl N .no (jx7 N (D + 1)) (dw := [12, 22])
theorem jy9 (N : Nat) : ∀ D, mK 15 (jx7 N D)
 | 0 => modelOk_none ⟨_, Tryz.func15, by decide, by kernel_rfl⟩ _ (fun a => rfl)
 | D + 1 => jBK N D (jy9 N D)
def jt (N : Nat) (a : Int) : Z9 :=
 (bif decide ((65 : Int) ≤ a) then bif decide (a ≤ 90) then some (IntKind.u8.wrap (a + 32)) else (bif decide ((97 : Int) ≤ a) then bif decide (a ≤ 122) then some a else (bif decide ((48 : Int) ≤ a) then bif decide (a ≤ 57) then some a else (some 0) else some 0) else bif decide ((48 : Int) ≤ a) then bif decide (a ≤ 57) then some a else (some 0) else some 0) else bif decide ((97 : Int) ≤ a) then bif decide (a ≤ 122) then some a else (bif decide ((48 : Int) ≤ a) then bif decide (a ≤ 57) then some a else (some 0) else some 0) else bif decide ((48 : Int) ≤ a) then bif decide (a ≤ 57) then some a else (some 0) else some 0)
theorem jfG (N : Nat) : mK 181 ⟨⟨[.pv (.int .u8)], []⟩, ⟨[.pv (.int .u8)], []⟩, c1A (jt N)⟩ :=
 mO ja Tryz.func181 rfl N .no _
def jJ (N : Nat) (a : Int) (b : Int) (c : Int) : Z6 :=
 (bif decide (b ≤ a) then some (decide (a ≤ c)) else some false)
theorem jcL (N : Nat) : mK 72 ⟨⟨[pI, pI, pI], []⟩, ⟨[pB], []⟩, c3A (jJ N)⟩ :=
 mO ja Tryz.func72 rfl N .no _
def jr5 : Sh := ⟨pS :: .dead :: .dead :: pI :: dz 23 [], []⟩
def jT (N : Nat) (i : List UInt8) : Z6 :=
 (iter (fun d (b, a) => bif decide (a < (b.length : Int)) then oB (idx b a) fun k => (oB (jt N (k.toNat : Int)) fun h => oB (idx b a) fun e => bif !decide (h = (e.toNat : Int)) then some false else oB (idx b a) fun j => bif decide ((j.toNat : Int) = 0) then some false else if fits (a + 1) then d (b, (a + 1)) else none) else oB (jJ N (b.length : Int) 1 12) fun f => some f) N (i, (0 : Int)))
theorem jgp (N : Nat) : mK 127 ⟨⟨[pS], []⟩, ⟨[pB], []⟩, c1A (jT N)⟩ :=
 mO (fC (jfG N) (fC (jcL N) ja)) Tryz.func127 rfl N (.seq .no (.seq (.seq .no (.block (.loop jr5 .no))) .no)) _
def jdI (N : Nat) : Option ((List Z0)) :=
 (some ([([105, 110, 103] : List UInt8), ([101, 100] : List UInt8), ([101, 115] : List UInt8), ([108, 121] : List UInt8), ([115] : List UInt8)] : List Z0))
theorem jkj (N : Nat) : mK 233 ⟨⟨[], []⟩, ⟨[.own 1 .str 9 true], []⟩, fun a => jdI N ⟩ :=
 mO ja Tryz.func233 rfl N .no _
def jl2 : Sh := ⟨pS :: .dead :: .dead :: pI :: dz 30 [], []⟩
def ja6 (N : Nat) (i : List UInt8) : Option (Z0) :=
 (iter (fun d (a, b) => oB (jdI N) fun h => bif decide (b < (h.length : Int)) then oB (jdI N) fun f => (oB (idx f b) fun c => if fits ((a.length : Int) - (c.length : Int)) then bif decide ((3 : Int) ≤ ((a.length : Int) - (c.length : Int))) then oB (cut a ((a.length : Int) - (c.length : Int)) (a.length : Int)) fun k => (bif decide (k = c) then oB (cut a 0 ((a.length : Int) - (c.length : Int))) fun j => (some j) else if fits (b + 1) then d (a, (b + 1)) else none) else (if fits (b + 1) then d (a, (b + 1)) else none) else none) else some a) N (i, (0 : Int)))
theorem jtL (N : Nat) : mK 182 ⟨⟨[pS], []⟩, ⟨[pS], []⟩, c1A (ja6 N)⟩ :=
 mO (fC (jkj N) ja) Tryz.func182 rfl N (.seq .no (.seq (.seq .no (.block (.loop jl2 .no))) .no)) _
def jto : Sh := ⟨pS :: dz 9 [], []⟩
def jaq (N : Nat) (e : List UInt8) : Option (Z0) :=
 (iter (fun c (a : Z0) => let s2 := a; (oB (ja6 N s2) fun d => bif !decide (d = s2) then oB (ja6 N s2) fun b => (c b) else some s2)) N e)
theorem jfZ (N : Nat) : mK 128 ⟨⟨[pS], []⟩, ⟨[pS], []⟩, c1A (jaq N)⟩ :=
 mO (fC (jtL N) ja) Tryz.func128 rfl N (.seq .no (.seq (.block (.loop jto .no)) .no)) _
def jlY : Sh := ⟨.pv (.sl .str) :: pS :: dz 3 (pI :: dz 12 []), []⟩
def jap (N : Nat) (f : List Z0) (h : List UInt8) : Z6 :=
 (iter (fun e (b, c, a) => bif decide (a < (b.length : Int)) then oB (idx b a) fun i => (bif decide (i = c) then some true else if fits (a + 1) then e (b, c, (a + 1)) else none) else some false) N (f, h, (0 : Int)))
theorem jhP (N : Nat) : mK 129 ⟨⟨[.pv (.sl .str), pS], []⟩, ⟨[pB], []⟩, c2A (jap N)⟩ :=
 mO ja Tryz.func129 rfl N (.seq .no (.seq (.seq .no (.block (.loop jlY .no))) .no)) _
def jrs : Sh := ⟨.dead :: .box 1 0 :: .dead :: pI :: dz 114 [], [(1, false, [.pv (.sl .str), .pv Y15])]⟩
def js0 : Sh := ⟨.dead :: .box 1 0 :: .dead :: .dead :: pI :: dz 113 [], [(1, false, [.pv (.sl .str), .pv Y15])]⟩
def jrc : Sh := ⟨.dead :: .box 1 0 :: .dead :: .dead :: pI :: .box 5 0 :: pI :: dz 111 [], [(1, false, [.pv (.sl .str), .pv Y15]), (5, false, [.pv (.sl .str), pS])]⟩
def jcw (N : Nat) (x : List Z0) (v : List Z4) : Z6 :=
 (iter (fun p (a, c, k) => bif decide (a < (c.length : Int)) then oB (idx c a) fun K => (oB (jT N K) fun G => bif !G then some false else bif decide ((0 : Int) < a) then oB (idx c a) fun m => (if fits (a - 1) then oB (idx c (a - 1)) fun n => (bif Op.bytesLess m n || decide (m = n) then some false else if fits (a + 1) then p ((a + 1), c, k) else none) else none) else if fits (a + 1) then p ((a + 1), c, k) else none) else iter (fun A (l, q, f) => bif decide (l < (f.length : Int)) then oB (idx f l) fun o => (iter (fun I (j, b, i, r, d, h) => bif decide (b < (d.length : Int)) then oB (idx d b) fun B => (oB (jT N B) fun w => bif !w then some false else oB (idx d b) fun u => oB (jaq N u) fun D => oB (idx d b) fun H => bif !decide (D = H) then some false else oB (idx d b) fun t => oB (jap N i t) fun y => bif y then some false else if fits (b + 1) then I (j, (b + 1), i, r, d, h) else none) else oB (jJ N (d.length : Int) 1 3) fun E => bif !E then some false else oB (jT N h) fun z => bif !z then some false else oB (jaq N h) fun C => bif !decide (C = h) then some false else if fits (j + 1) then A ((j + 1), i, r) else none) N (l, (0 : Int), q, f, o.1, o.2)) else bif decide ((q.length : Int) ≤ 6) then some (decide ((f.length : Int) ≤ 4)) else some false) N ((0 : Int), c, k)) N ((0 : Int), x, v))
theorem jtf (N : Nat) : mK 85 ⟨⟨[.agg [.pv (.sl .str), .pv Y15]], []⟩, ⟨[pB], []⟩, c2A (jcw N)⟩ :=
 mO (fC (jgp N) (fC (jfZ N) (fC (jhP N) (fC (jcL N) ja)))) Tryz.func85 rfl N (.seq .no (.seq (.seq .no (.block (.loop jrs .no))) (.seq (.seq .no (.block (.loop js0 (.seq .no (.seq (.block (.seq .no (.seq (.seq .no (.block (.loop jrc .no))) .no))) .no))))) .no))) _
def jot : Sh := ⟨pS :: .dead :: .dead :: pI :: dz 19 [], []⟩
def jcu (N : Nat) (f : List UInt8) : Z6 :=
 (iter (fun d (a, b) => bif decide (b < (a.length : Int)) then oB (idx a b) fun h => (bif decide ((h.toNat : Int) < 32) then some false else oB (idx a b) fun e => bif decide ((126 : Int) < (e.toNat : Int)) then some false else if fits (b + 1) then d (a, (b + 1)) else none) else some (decide ((a.length : Int) ≤ 160))) N (f, (0 : Int)))
theorem jpZ (N : Nat) : mK 183 ⟨⟨[pS], []⟩, ⟨[pB], []⟩, c1A (jcu N)⟩ :=
 mO ja Tryz.func183 rfl N (.seq .no (.seq (.seq .no (.block (.loop jot .no))) .no)) _
def jp0 : Sh := ⟨.dead :: .box 1 0 :: .dead :: pI :: dz 100 [], [(1, false, [pI, .pv Y18, .pv Y14])]⟩
def jtP : Sh := ⟨.dead :: .box 1 0 :: dz 3 (pI :: dz 98 []), [(1, false, [pI, .pv Y18, .pv Y14])]⟩
def jcb (N : Nat) (B : Int) (t : Z14) (q : Z7) : Z6 :=
 (iter (fun n (b, k, d, j) => bif decide (b < (d.length : Int)) then oB (idx d b) fun e => (oB (jT N e.1) fun A => bif !A then some false else oB (jcu N e.2) fun u => bif !u then some false else bif decide ((0 : Int) < b) then if fits (b - 1) then oB (idx d (b - 1)) fun l => (bif Op.bytesLess e.1 l.1 || decide (e.1 = l.1) then some false else if fits (b + 1) then n ((b + 1), k, d, j) else none) else none else if fits (b + 1) then n ((b + 1), k, d, j) else none) else iter (fun o (a, f, h, c) => bif decide (a < (c.length : Int)) then oB (idx c a) fun r => (oB (jT N r.1) fun y => bif !y then some false else oB (idx c a) fun v => oB (jJ N v.2 0 999999999) fun w => bif !w then some false else bif decide ((0 : Int) < a) then oB (idx c a) fun p => (if fits (a - 1) then oB (idx c (a - 1)) fun m => (bif Op.bytesLess p.1 m.1 || decide (p.1 = m.1) then some false else if fits (a + 1) then o ((a + 1), f, h, c) else none) else none) else if fits (a + 1) then o ((a + 1), f, h, c) else none) else oB (jJ N f 1 9999) fun z => bif z then oB (jJ N (h.length : Int) 0 3) fun x => (bif x then some (decide ((c.length : Int) ≤ 3)) else some false) else some false) N ((0 : Int), k, d, j)) N ((0 : Int), B, t, q))
theorem jpD (N : Nat) : mK 130 ⟨⟨[.agg [pI, .pv Y18, .pv Y14]], []⟩, ⟨[pB], []⟩, c3A (jcb N)⟩ :=
 mO (fC (jgp N) (fC (jpZ N) (fC (jcL N) ja))) Tryz.func130 rfl N (.seq .no (.seq (.seq .no (.block (.loop jp0 .no))) (.seq (.seq .no (.block (.loop jtP .no))) .no))) _
def jkS : Sh := ⟨.pv Y2 :: .dead :: .dead :: pI :: dz 33 [], []⟩
def jbU (N : Nat) (j : List Z2) : Z6 :=
 (iter (fun d (b, a) => bif decide (a < (b.length : Int)) then oB (idx b a) fun c => (oB (jcb N c.1 c.2.1 c.2.2) fun i => bif !i then some false else bif decide ((0 : Int) < a) then oB (idx b a) fun e => (if fits (a - 1) then oB (idx b (a - 1)) fun h => (bif decide (e.1 ≤ h.1) then some false else if fits (a + 1) then d (b, (a + 1)) else none) else none) else if fits (a + 1) then d (b, (a + 1)) else none) else some (decide ((b.length : Int) ≤ 16))) N (j, (0 : Int)))
theorem jpx (N : Nat) : mK 86 ⟨⟨[.pv Y2], []⟩, ⟨[pB], []⟩, c1A (jbU N)⟩ :=
 mO (fC (jpD N) ja) Tryz.func86 rfl N (.seq .no (.seq (.seq .no (.block (.loop jkS .no))) .no)) _
def jl5 : Sh := ⟨.pv (.sl .str) :: pS :: dz 3 (pI :: dz 42 []), []⟩
def s_l7Put_m (N : Nat) (o : List Z0) (r : List UInt8) : Option ((List Z0)) :=
 (iter (fun q (a, c, b) => bif decide (b < (a.length : Int)) then oB (idx a b) fun t => (bif Op.bytesLess t c then if fits (b + 1) then q (a, c, (b + 1)) else none else bif decide (b < (a.length : Int)) then oB (idx a b) fun m => (bif decide (m = c) then some a else oB (cut a 0 b) fun h => if room ([] : List Z0).length h.length 16 then if room (([] : List Z0) ++ h).length ([c] : List Z0).length 16 then oB (cut a b (a.length : Int)) fun l => (if room ((([] : List Z0) ++ h) ++ ([c] : List Z0)).length l.length 16 then some (((([] : List Z0) ++ h) ++ ([c] : List Z0)) ++ l) else none) else none else none) else oB (cut a 0 b) fun e => if room ([] : List Z0).length e.length 16 then if room (([] : List Z0) ++ e).length ([c] : List Z0).length 16 then oB (cut a b (a.length : Int)) fun j => (if room ((([] : List Z0) ++ e) ++ ([c] : List Z0)).length j.length 16 then some (((([] : List Z0) ++ e) ++ ([c] : List Z0)) ++ j) else none) else none else none) else bif decide (b < (a.length : Int)) then oB (idx a b) fun n => (bif decide (n = c) then some a else oB (cut a 0 b) fun d => if room ([] : List Z0).length d.length 16 then if room (([] : List Z0) ++ d).length ([c] : List Z0).length 16 then oB (cut a b (a.length : Int)) fun i => (if room ((([] : List Z0) ++ d) ++ ([c] : List Z0)).length i.length 16 then some (((([] : List Z0) ++ d) ++ ([c] : List Z0)) ++ i) else none) else none else none) else oB (cut a 0 b) fun f => if room ([] : List Z0).length f.length 16 then if room (([] : List Z0) ++ f).length ([c] : List Z0).length 16 then oB (cut a b (a.length : Int)) fun k => (if room ((([] : List Z0) ++ f) ++ ([c] : List Z0)).length k.length 16 then some (((([] : List Z0) ++ f) ++ ([c] : List Z0)) ++ k) else none) else none else none) N (o, r, (0 : Int)))
theorem jgt (N : Nat) : mK 184 ⟨⟨[.pv (.sl .str), pS], []⟩, ⟨[.pv (.sl .str)], []⟩, c2A (s_l7Put_m N)⟩ :=
 mO ja Tryz.func184 rfl N (.seq .no (.seq .no (.seq (.block (.loop jl5 .no)) .no))) _
def joT : Sh := ⟨.pv Y2 :: .dead :: .dead :: .pv (.sl .str) :: pI :: dz 30 [], []⟩
def jkn : Sh := ⟨.pv Y2 :: .dead :: .dead :: .pv (.sl .str) :: pI :: pI :: dz 29 [], []⟩
def s_l7Names_m (N : Nat) (o : List Z2) : Option ((List Z0)) :=
 (iter (fun k (e, h, i) => bif decide (i < (e.length : Int)) then iter (fun l (c, f, a, b) => oB (idx c a) fun p => bif decide (b < (p.2.1.length : Int)) then oB (idx c a) fun j => (oB (idx j.2.1 b) fun m => oB (s_l7Put_m N f m.1) fun n => if fits (b + 1) then l (c, n, a, (b + 1)) else none) else if fits (a + 1) then k (c, f, (a + 1)) else none) N (e, h, i, (0 : Int)) else some h) N (o, ([] : List Z0), (0 : Int)))
theorem jlz (N : Nat) : mK 131 ⟨⟨[.pv Y2], []⟩, ⟨[.pv (.sl .str)], []⟩, c1A (s_l7Names_m N)⟩ :=
 mO (fC (jgt N) ja) Tryz.func131 rfl N (.seq .no (.seq .no (.seq (.seq .no (.block (.loop joT (.seq .no (.seq (.block (.seq .no (.block (.loop jkn .no)))) .no))))) .no))) _
def jl8 : Sh := ⟨.dead :: pS :: .box 2 0 :: .dead :: .dead :: pI :: dz 21 [], [(2, false, [pI, .pv Y18, .pv Y14])]⟩
def s_l6Field_m (N : Nat) (m : Int) (j : Z14) (h : Z7) (i : List UInt8) : Option (Z0) :=
 (iter (fun f (c, a, l, b, k) => bif decide (a < (b.length : Int)) then oB (idx b a) fun n => (bif decide (n.1 = c) then oB (idx b a) fun d => (some d.2) else if fits (a + 1) then f (c, (a + 1), l, b, k) else none) else some ([] : List UInt8)) N (i, (0 : Int), m, j, h))
theorem jhA (N : Nat) : mK 185 ⟨⟨[.agg [pI, .pv Y18, .pv Y14], pS], []⟩, ⟨[pS], []⟩, c4A (s_l6Field_m N)⟩ :=
 mO ja Tryz.func185 rfl N (.seq .no (.seq (.seq .no (.block (.loop jl8 .no))) .no)) _
def jo3 : Sh := ⟨pS :: .dead :: .dead :: .own 600003 Y6 246 true :: pI :: dz 50 [], []⟩
def jm6 : Sh := ⟨pS :: .dead :: .dead :: .own 600003 Y6 246 true :: pI :: .own 600005 (.int .u8) 5 true :: pI :: dz 48 [], []⟩
def jtK : Sh := ⟨pS :: .dead :: .dead :: .own 600003 Y6 246 true :: pI :: .pv (.sl (.int .u8)) :: pI :: dz 48 [], []⟩
def jb3 (N : Nat) (D : List UInt8) : Option ((List Z8)) :=
 (iter (fun l (u, x, n) => bif decide (n < (u.length : Int)) then iter (fun B (b, h, a, c, i) => bif decide (a < (b.length : Int)) then oB (idx b a) fun A => (oB (jt N (A.toNat : Int)) fun C => bif !decide (C = 0) then oB (idx b a) fun z => (oB (jt N (z.toNat : Int)) fun t => if room c.length ([t] : List Int).length 1 then if fits (a + 1) then B (b, h, (a + 1), (c ++ ([t] : List Int)), i) else none else none) else meet (fun (d : Z0 × (List Z8) × Int × (List Int) × Int) => match d with | (v, k, f, o, w) => bif decide ((0 : Int) < (o.length : Int)) then if room k.length ([((bytesOf o), (k.length : Int), w, f)] : List Z8).length 40 then if fits (f + 1) then l (v, (k ++ ([((bytesOf o), (k.length : Int), w, f)] : List Z8)), (f + 1)) else none else none else if fits (f + 1) then l (v, k, (f + 1)) else none) fun q => bif decide ((12 : Int) < (c.length : Int)) then oB (cut c 0 12) fun G => (q (b, h, a, G, i)) else q (b, h, a, c, i)) else meet (fun (d : Z0 × (List Z8) × Int × (List Int) × Int) => match d with | (y, j, e, m, r) => bif decide ((0 : Int) < (m.length : Int)) then if room j.length ([((bytesOf m), (j.length : Int), r, e)] : List Z8).length 40 then if fits (e + 1) then l (y, (j ++ ([((bytesOf m), (j.length : Int), r, e)] : List Z8)), (e + 1)) else none else none else if fits (e + 1) then l (y, j, (e + 1)) else none) fun p => bif decide ((12 : Int) < (c.length : Int)) then oB (cut c 0 12) fun E => (p (b, h, a, E, i)) else p (b, h, a, c, i)) N (u, x, n, ([] : List Int), n) else some x) N (D, ([] : List Z8), (0 : Int)))
theorem jsr (N : Nat) : mK 235 ⟨⟨[pS], []⟩, ⟨[.own 1 Y6 246 true], []⟩, c1A (jb3 N)⟩ :=
 mO (fC (jfG N) ja) Tryz.func235 rfl N (.seq .no (.seq .no (.seq (.seq .no (.block (.loop jo3 (.seq .no (.seq (.block (.seq .no (.seq .no (.seq (.block (.loop jm6 .no)) (.meet jtK .no .no))))) .no))))) .no))) _
def jmf : Sh := ⟨.dead :: .dead :: .box 2 0 :: .dead :: .dead :: .own 600005 Y16 186 true :: .own 600006 Y6 246 true :: pI :: dz 43 [], [(2, false, [.pv (.sl .str), .pv Y15])]⟩
def jbY (N : Nat) (l : List Z0) (k : List Z4) (q : List UInt8) : Option (Z5) :=
 (oB (jb3 N q) fun p => iter (fun h (d, b, a, c, f) => bif decide (a < (b.length : Int)) then oB (idx b a) fun r => (oB (jaq N r.1) fun e => oB (idx b a) fun j => oB (jap N c j.1) fun o => bif !o then oB (jap N c e) fun n => (bif !n then oB (idx b a) fun i => (if room d.length ([(e, i.2.1)] : Z7).length 24 then if fits (a + 1) then h ((d ++ ([(e, i.2.1)] : Z7)), b, (a + 1), c, f) else none else none) else if fits (a + 1) then h (d, b, (a + 1), c, f) else none) else if fits (a + 1) then h (d, b, (a + 1), c, f) else none) else some d) N (([] : Z7), p, (0 : Int), l, k))
theorem jrk (N : Nat) : mK 192 ⟨⟨[.agg [.pv (.sl .str), .pv Y15], pS], []⟩, ⟨[.own 1 Y16 186 true], []⟩, c3A (jbY N)⟩ :=
 mO (fC (jsr N) (fC (jfZ N) (fC (jhP N) ja))) Tryz.func192 rfl N (.seq .no (.seq .no (.seq .no (.seq (.seq .no (.block (.loop jmf .no))) .no)))) _
def jrL : Sh := ⟨.pv Y14 :: .pv (.sl .str) :: dz 3 (pI :: dz 36 []), []⟩
def jcC (N : Nat) (k : Z7) (e : List Z0) : Z6 :=
 (iter (fun i (b, c, a) => bif decide (a < (c.length : Int)) then bif decide ((b.length : Int) ≤ a) then some false else (oB (idx b a) fun l => oB (idx c a) fun f => bif !decide (l.1 = f) then some false else oB (idx b a) fun j => oB (idx b 0) fun d => if fits (d.2 + a) then bif !decide (j.2 = (d.2 + a)) then some false else (if fits (a + 1) then i (b, c, (a + 1)) else none) else none) else some true) N (k, e, (0 : Int)))
theorem jtg (N : Nat) : mK 236 ⟨⟨[.pv Y14, .pv (.sl .str)], []⟩, ⟨[pB], []⟩, c2A (jcC N)⟩ :=
 mO ja Tryz.func236 rfl N (.seq .no (.seq (.seq .no (.block (.loop jrL .no))) .no)) _
def jlL : Sh := ⟨.dead :: .pv Y14 :: .box 2 0 :: .dead :: .dead :: pI :: pI :: dz 38 [], [(2, false, [.pv (.sl .str), .pv Y15])]⟩
def jcJ (N : Nat) (n : List Z0) (k : List Z4) (m : Z7) : Z9 :=
 (iter (fun e (d, c, a, f, b) => bif decide (a < (b.length : Int)) then oB (idx b a) fun o => (oB (jcC N d o.1) fun l => bif l then bif decide (c < 0) then if fits (a + 1) then e (d, a, (a + 1), f, b) else none else (oB (idx b a) fun h => oB (idx b c) fun j => bif decide ((j.1.length : Int) < (h.1.length : Int)) then if fits (a + 1) then e (d, a, (a + 1), f, b) else none else if fits (a + 1) then e (d, c, (a + 1), f, b) else none) else if fits (a + 1) then e (d, c, (a + 1), f, b) else none) else some c) N (m, ((-1) : Int), (0 : Int), n, k))
theorem jqp (N : Nat) : mK 193 ⟨⟨[.agg [.pv (.sl .str), .pv Y15], .pv Y14], []⟩, ⟨[pI], []⟩, c3A (jcJ N)⟩ :=
 mO (fC (jtg N) ja) Tryz.func193 rfl N (.seq .no (.seq .no (.seq (.seq .no (.block (.loop jlL .no))) .no))) _
def jnK : Sh := ⟨.dead :: .dead :: .box 2 0 :: .dead :: .dead :: .own 600005 Y16 186 true :: .pv Y14 :: dz 45 [], [(2, false, [.pv (.sl .str), .pv Y15])]⟩
def ja5 (N : Nat) (j : List Z0) (i : List Z4) (p : List UInt8) : Option (Z5) :=
 (oB (jbY N j i p) fun o => iter (fun k (c, a, e, b) => bif decide ((0 : Int) < (a.length : Int)) then oB (jcJ N e b a) fun d => (bif decide (d < 0) then oB (idx a 0) fun l => (if room c.length ([l] : Z7).length 24 then oB (cut a 1 (a.length : Int)) fun r => (k ((c ++ ([l] : Z7)), r, e, b)) else none) else oB (idx b d) fun f => oB (idx a 0) fun h => if room c.length ([(f.2, h.2)] : Z7).length 24 then oB (idx b d) fun m => (oB (cut a (m.1.length : Int) (a.length : Int)) fun q => k ((c ++ ([(f.2, h.2)] : Z7)), q, e, b)) else none) else some c) N (([] : Z7), o, j, i))
theorem jiO (N : Nat) : mK 142 ⟨⟨[.agg [.pv (.sl .str), .pv Y15], pS], []⟩, ⟨[.own 1 Y16 186 true], []⟩, c3A (ja5 N)⟩ :=
 mO (fC (jrk N) (fC (jqp N) ja)) Tryz.func142 rfl N (.seq .no (.seq .no (.seq .no (.seq (.block (.loop jnK .no)) .no)))) _
def jn9 : Sh := ⟨.dead :: .pv Y2 :: pS :: .box 3 0 :: dz 3 (.pv (.sl .str) :: pI :: dz 31 []), [(3, false, [.pv (.sl .str), .pv Y15])]⟩
def jrT : Sh := ⟨.dead :: .pv Y2 :: pS :: .box 3 0 :: dz 3 (.pv (.sl .str) :: pI :: .own 600009 Y16 186 true :: pI :: dz 29 []), [(3, false, [.pv (.sl .str), .pv Y15])]⟩
def s_l7Terms_m (N : Nat) (x : List Z0) (t : List Z4) (v : List Z2) (w : List UInt8) : Option ((List Z0)) :=
 (iter (fun y (b, o, p, e, l, m) => bif decide (e < (b.length : Int)) then oB (idx b e) fun h => (oB (s_l6Field_m N h.1 h.2.1 h.2.2 o) fun B => oB (ja5 N l m B) fun u => iter (fun z (q, j, k, f, c, a, n, i) => bif decide (a < (c.length : Int)) then oB (idx c a) fun r => (oB (s_l7Put_m N k r.1) fun A => if fits (a + 1) then z (q, j, A, f, c, (a + 1), n, i) else none) else if fits (f + 1) then y (q, j, k, (f + 1), n, i) else none) N (b, o, p, e, u, (0 : Int), l, m)) else some p) N (v, w, ([] : List Z0), (0 : Int), x, t))
theorem jqQ (N : Nat) : mK 132 ⟨⟨[.agg [.pv (.sl .str), .pv Y15], .pv Y2, pS], []⟩, ⟨[.pv (.sl .str)], []⟩, c4A (s_l7Terms_m N)⟩ :=
 mO (fC (jhA N) (fC (jiO N) (fC (jgt N) ja))) Tryz.func132 rfl N (.seq .no (.seq .no (.seq (.seq .no (.block (.loop jn9 (.seq .no (.seq (.block (.seq .no (.seq .no (.block (.loop jrT .no))))) .no))))) .no))) _
def jnY : Sh := ⟨dz 3 (pS :: dz 5 (.own 600009 tI 3 true :: .own 600010 Y16 186 true :: pI :: dz 28 [])), []⟩
def s_l7Post_m (N : Nat) (n : List Z0) (j : List Z4) (q : Int) (i : Z14) (h : Z7) (m : List UInt8) (l : List UInt8) : Option ((List Int)) :=
 (oB (s_l6Field_m N q i h m) fun p => oB (ja5 N n j p) fun k => iter (fun f (d, c, b, a) => bif decide (a < (b.length : Int)) then oB (idx b a) fun r => (bif decide (r.1 = d) then oB (idx b a) fun e => (if room c.length ([e.2] : List Int).length 8 then if fits (a + 1) then f (d, (c ++ ([e.2] : List Int)), b, (a + 1)) else none else none) else if fits (a + 1) then f (d, c, b, (a + 1)) else none) else some c) N (l, ([] : List Int), k, (0 : Int)))
theorem js6 (N : Nat) : mK 186 ⟨⟨[.agg [.pv (.sl .str), .pv Y15], .agg [pI, .pv Y18, .pv Y14], pS, pS], []⟩, ⟨[.own 1 tI 3 true], []⟩, c7A (s_l7Post_m N)⟩ :=
 mO (fC (jhA N) (fC (jiO N) ja)) Tryz.func186 rfl N (.seq .no (.seq .no (.seq .no (.seq (.seq .no (.block (.loop jnY .no))) .no)))) _
def jkw : Sh := ⟨.dead :: .pv Y2 :: pS :: pS :: .box 4 0 :: dz 3 (.box 8 0 :: .box 9 0 :: pI :: dz 34 []), [(4, false, [.pv (.sl .str), .pv Y15]), (8, false, [pS, pS, .nils]), (9, false, [pS, pS, .own 700902 Y12 175 true])]⟩
def s_l7Entry_m (N : Nat) (v : List Z0) (t : List Z4) (u : List Z2) (o : List UInt8) (n : List UInt8) : Option Z1 :=
 (iter (fun p (b, j, h, a, f, i, q, m, l, d, c) => bif decide (a < (b.length : Int)) then oB (idx b a) fun e => (oB (s_l7Post_m N f i e.1 e.2.1 e.2.2 j h) fun k => bif decide ((0 : Int) < (k.length : Int)) then oB (idx b a) fun r => (if room c.length ([(r.1, k)] : Z3).length 32 then if fits (a + 1) then p (b, j, h, (a + 1), f, i, q, m, l, d, (c ++ ([(r.1, k)] : Z3))) else none else none) else if fits (a + 1) then p (b, j, h, (a + 1), f, i, q, m, l, d, c) else none) else some (l, d, c)) N (u, o, n, (0 : Int), v, t, ([] : List UInt8), ([] : List UInt8), o, n, ([] : Z3)))
theorem jtr (N : Nat) : mK 133 ⟨⟨[.agg [.pv (.sl .str), .pv Y15], .pv Y2, pS, pS], []⟩, ⟨[.agg [pS, pS, .own 1 Y12 175 true]], []⟩, c5A (s_l7Entry_m N)⟩ :=
 mO (fC (js6 N) ja) Tryz.func133 rfl N (.seq .no (.seq .no (.seq (.seq .no (.block (.loop jkw .no))) .no))) _
def s_l7CopyDoc_m (N : Nat) (c : Int) (a : Z14) (b : Z7) : Option Z2 :=
 (if room ([] : Z14).length a.length 32 then if room ([] : Z7).length b.length 24 then some (c, (([] : Z14) ++ a), (([] : Z7) ++ b)) else none else none)
theorem jtC (N : Nat) : mK 134 ⟨⟨[.agg [pI, .pv Y18, .pv Y14]], []⟩, ⟨[.agg [pI, .own 1 Y19 199 true, .own 2 Y16 192 true]], []⟩, c3A (s_l7CopyDoc_m N)⟩ :=
 mO ja Tryz.func134 rfl N .no _
def jn8 : Sh := ⟨.dead :: .pv Y2 :: .box 2 0 :: .dead :: .box 4 0 :: .box 5 0 :: .pv (.sl .str) :: pI :: dz 58 [], [(2, false, [.pv (.sl .str), .pv Y15]), (4, false, [.nils, .nils]), (5, false, [.nils, .own 700501 Y5 136 true])]⟩
def jpr : Sh := ⟨.dead :: .pv Y2 :: .box 2 0 :: .dead :: .box 4 0 :: .box 5 0 :: .pv (.sl .str) :: pI :: .pv (.sl .str) :: pI :: dz 56 [], [(2, false, [.pv (.sl .str), .pv Y15]), (4, false, [.nils, .nils]), (5, false, [.nils, .own 700501 Y5 136 true])]⟩
def jn0 : Sh := ⟨.dead :: .pv Y2 :: .dead :: .dead :: .box 4 0 :: .box 5 0 :: dz 4 (pI :: dz 55 []), [(4, false, [.nils, .nils]), (5, false, [.own 700500 Y3 88 true, .own 700501 Y5 136 true])]⟩
def s_l7Of_m (N : Nat) (D : List Z0) (B : List Z4) (r : List Z2) : Option ((List Z2) × (List Z1)) :=
 (oB (s_l7Names_m N r) fun H => iter (fun E (h, q, o, u, v, y) => bif decide (o < (q.length : Int)) then oB (idx q o) fun K => (oB (s_l7Terms_m N u v h K) fun C => iter (fun G (p, n, d, e, b, m, f, k) => bif decide (b < (e.length : Int)) then oB (idx n d) fun z => (oB (idx e b) fun A => oB (s_l7Entry_m N m f p z A) fun x => if room k.length ([x] : List Z1).length 56 then if fits (b + 1) then G (p, n, d, e, (b + 1), m, f, (k ++ ([x] : List Z1))) else none else none) else if fits (d + 1) then E (p, n, (d + 1), m, f, k) else none) N (h, q, o, C, (0 : Int), u, v, y)) else iter (fun I (l, c, i, t) => bif decide (c < (l.length : Int)) then oB (idx l c) fun j => (oB (s_l7CopyDoc_m N j.1 j.2.1 j.2.2) fun w => if room i.length ([w] : List Z2).length 56 then if fits (c + 1) then I (l, (c + 1), (i ++ ([w] : List Z2)), t) else none else none) else some (i, t)) N (h, (0 : Int), ([] : List Z2), y)) N (r, H, (0 : Int), D, B, ([] : List Z1)))
theorem jmU (N : Nat) : mK 87 ⟨⟨[.agg [.pv (.sl .str), .pv Y15], .pv Y2], []⟩, ⟨[.agg [.own 1 Y3 88 true, .own 2 Y5 136 true]], []⟩, c3A (s_l7Of_m N)⟩ :=
 mO (fC (jlz N) (fC (jqQ N) (fC (jtr N) (fC (jtC N) ja)))) Tryz.func87 rfl N (.seq .no (.seq .no (.seq .no (.seq (.seq .no (.block (.loop jn8 (.seq .no (.seq (.block (.seq .no (.seq .no (.block (.loop jpr .no))))) .no))))) (.seq (.seq .no (.block (.loop jn0 .no))) .no))))) _
def jnI : Sh := ⟨.pv Y20 :: .pv Y20 :: dz 3 (pI :: dz 20 []), []⟩
def jb1 (N : Nat) (e : List Int) (c : List Int) : Z6 :=
 (bif !decide ((e.length : Int) = (c.length : Int)) then some false else iter (fun i (b, d, a) => bif decide (a < (b.length : Int)) then oB (idx b a) fun j => (oB (idx d a) fun f => bif !decide (j = f) then some false else if fits (a + 1) then i (b, d, (a + 1)) else none) else some true) N (e, c, (0 : Int)))
theorem jlH (N : Nat) : mK 135 ⟨⟨[.pv Y20, .pv Y20], []⟩, ⟨[pB], []⟩, c2A (jb1 N)⟩ :=
 mO ja Tryz.func135 rfl N (.seq .no (.seq .no (.seq (.seq .no (.block (.loop jnI .no))) .no))) _
def jnx : Sh := ⟨.dead :: .dead :: .box 2 0 :: .box 3 0 :: .dead :: pI :: dz 57 [], [(2, false, [pS, pS, .pv Y11]), (3, false, [pS, pS, .pv Y11])]⟩
def jbQ (N : Nat) (j : List UInt8) (e : List UInt8) (i : Z3) (h : List UInt8) (d : List UInt8) (f : Z3) : Z6 :=
 (bif !decide (j = h) then some false else bif !decide (e = d) then some false else bif !decide ((i.length : Int) = (f.length : Int)) then some false else iter (fun r (a, m, p, b, l, t, c) => bif decide (a < (b.length : Int)) then oB (idx b a) fun v => (oB (idx c a) fun k => bif !decide (v.1 = k.1) then some false else oB (idx b a) fun n => oB (idx c a) fun o => oB (jb1 N n.2 o.2) fun u => bif !u then some false else if fits (a + 1) then r ((a + 1), m, p, b, l, t, c) else none) else some true) N ((0 : Int), j, e, i, h, d, f))
theorem jtG (N : Nat) : mK 88 ⟨⟨[.agg [pS, pS, .pv Y11], .agg [pS, pS, .pv Y11]], []⟩, ⟨[pB], []⟩, c6A (jbQ N)⟩ :=
 mO (fC (jlH N) ja) Tryz.func88 rfl N (.seq .no (.seq .no (.seq (.seq .no (.block (.loop jnx .no))) .no))) _
def jrW : Sh := ⟨dz 3 (.box 3 0 :: .dead :: .box 5 0 :: pI :: dz 39 []), [(3, false, [.pv Y2, .pv Y4]), (5, false, [.own 700500 Y3 88 true, .own 700501 Y5 136 true])]⟩
def s_l7Ok_m (N : Nat) (k : List Z0) (h : List Z4) (e : List Z2) (i : List Z1) : Z6 :=
 (oB (jcw N k h) fun r => bif !r then some false else oB (jbU N e) fun m => bif !m then some false else oB (s_l7Of_m N k h e) fun d => bif !decide ((d.2.length : Int) = (i.length : Int)) then some false else iter (fun q (a, l, j, n, c) => bif decide (a < (c.length : Int)) then oB (idx c a) fun f => (oB (idx j a) fun b => oB (jbQ N f.1 f.2.1 f.2.2 b.1 b.2.1 b.2.2) fun p => bif !p then some false else if fits (a + 1) then q ((a + 1), l, j, n, c) else none) else some true) N ((0 : Int), e, i, d.1, d.2))
theorem jpm (N : Nat) : mK 48 ⟨⟨[.agg [.pv (.sl .str), .pv Y15], .agg [.pv Y2, .pv Y4]], []⟩, ⟨[pB], []⟩, c4A (s_l7Ok_m N)⟩ :=
 mO (fC (jtf N) (fC (jpx N) (fC (jmU N) (fC (jtG N) ja)))) Tryz.func48 rfl N (.seq .no (.seq .no (.seq .no (.seq .no (.seq (.seq .no (.block (.loop jrW .no))) .no))))) _
def jxz (N : Nat) (k : Int) (i : List UInt8) (h : List Z0) (c : Int) (d : Int) (a : List DQ) (j : Bool) (f : Bool) (e : Bool) (b : Bool) : Z6 :=
 (bif j then bif f then bif e then bif b then some true else (some (decide ((a.length : Int) = 0))) else (bif decide (c = 0) then bif decide (d = 0) then bif b then some true else (some (decide ((a.length : Int) = 0))) else (some false) else some false) else (bif decide ((h.length : Int) = 0) then bif e then bif b then some true else (some (decide ((a.length : Int) = 0))) else (bif decide (c = 0) then bif decide (d = 0) then bif b then some true else (some (decide ((a.length : Int) = 0))) else (some false) else some false) else some false) else bif decide (i = ([] : List UInt8)) then bif f then bif e then bif b then some true else (some (decide ((a.length : Int) = 0))) else (bif decide (c = 0) then bif decide (d = 0) then bif b then some true else (some (decide ((a.length : Int) = 0))) else (some false) else some false) else (bif decide ((h.length : Int) = 0) then bif e then bif b then some true else (some (decide ((a.length : Int) = 0))) else (bif decide (c = 0) then bif decide (d = 0) then bif b then some true else (some (decide ((a.length : Int) = 0))) else (some false) else some false) else some false) else some false)
theorem jDV (N : Nat) : mK 187 ⟨⟨[.agg [pI, pS, .pv (.sl .str), pI, pI, .pv (.sl .q)], pB, pB, pB, pB], []⟩, ⟨[pB], []⟩, c10A (jxz N)⟩ :=
 mO ja Tryz.func187 rfl N .no _
def jDt : Sh := ⟨.pv (.sl .str) :: pI :: dz 3 (pI :: dz 16 []), []⟩
def jxL (N : Nat) (j : List Z0) (f : Int) : Z6 :=
 (iter (fun e (a, c, b) => bif decide (b < (a.length : Int)) then oB (idx a b) fun k => (oB (jT N k) fun i => bif !i then some false else if fits (b + 1) then e (a, c, (b + 1)) else none) else oB (jJ N (a.length : Int) 1 c) fun h => some h) N (j, f, (0 : Int)))
theorem jDs (N : Nat) : mK 188 ⟨⟨[.pv (.sl .str), pI], []⟩, ⟨[pB], []⟩, c2A (jxL N)⟩ :=
 mO (fC (jgp N) (fC (jcL N) ja)) Tryz.func188 rfl N (.seq .no (.seq (.seq .no (.block (.loop jDt .no))) .no)) _
def jBL : Sh := ⟨pS :: .dead :: .dead :: pI :: dz 28 [], []⟩
def jyk (N : Nat) (d : List UInt8) : Z6 :=
 (iter (fun c (b, a) => bif decide (a < (b.length : Int)) then oB (idx b a) fun j => (bif !decide ((j.toNat : Int) = 42) then oB (idx b a) fun f => (bif !decide ((f.toNat : Int) = 63) then if fits (a + 1) then oB (cut b a (a + 1)) fun k => (oB (jT N k) fun i => bif !i then some false else if fits (a + 1) then c (b, (a + 1)) else none) else none else if fits (a + 1) then c (b, (a + 1)) else none) else if fits (a + 1) then c (b, (a + 1)) else none) else oB (jJ N (b.length : Int) 1 12) fun h => some h) N (d, (0 : Int)))
theorem jC1 (N : Nat) : mK 189 ⟨⟨[pS], []⟩, ⟨[pB], []⟩, c1A (jyk N)⟩ :=
 mO (fC (jgp N) (fC (jcL N) ja)) Tryz.func189 rfl N (.seq .no (.seq (.seq .no (.block (.loop jBL .no))) .no)) _
def jDP : Sh := ⟨.dead :: .box 1 0 :: .dead :: pI :: dz 4 (pI :: dz 123 (pB :: dz 34 [])), [(1, false, [pI, pS, .pv (.sl .str), pI, pI, .pv (.sl .q)])]⟩
def jyq (N : Nat) (a : Int) (c : List UInt8) (b : List Z0) (d : Int) (e : Int) (f : List DQ) : Z6 :=
 (bif decide (a = 1) then oB (jxz N a c b d e f false false false false) fun U => (some U) else bif decide (a = 2) then oB (jxz N a c b d e f true true false false) fun v => (bif v then oB (jT N c) fun E => (bif E then oB (jxL N b 1) fun Q => (some Q) else some false) else some false) else bif decide (a = 3) then oB (jxz N a c b d e f true true true false) fun T => (bif T then oB (jT N c) fun R => (bif R then oB (jxL N b 4) fun S => (bif S then bif decide ((1 : Int) < (b.length : Int)) then bif decide (e = 0) then oB (jJ N d 0 5) fun H => (some H) else (some false) else (some false) else some false) else some false) else some false) else bif decide (a = 4) then oB (jxz N a c b d e f true true true false) fun B => (bif B then oB (jT N c) fun r => (bif r then oB (jxL N b 1) fun x => (bif x then bif decide (e = 0) then oB (jJ N d 1 2) fun I => (some I) else (some false) else some false) else some false) else some false) else bif decide (a = 5) then oB (jxz N a c b d e f true true false false) fun y => (bif y then oB (jT N c) fun W => (bif W then bif decide ((b.length : Int) = 1) then oB (idx b 0) fun X => (oB (jyk N X) fun K => bif K then oB (idx b 0) fun q => (oB (jT N q) fun D => some (!D)) else some false) else (some false) else some false) else some false) else bif decide (a = 6) then oB (jxz N a c b d e f true false true false) fun C => (bif C then oB (jT N c) fun L => (bif L then oB (jJ N d 0 999999999) fun O => (bif O then oB (jJ N e d 999999999) fun z => (some z) else some false) else some false) else some false) else meet (fun (P : Int × Int × Bool × Int × Z0 × (List Z0) × Int × Int × (List DQ)) => match P with | (l, o, u, k, n, j, h, i, m) => bif u then oB (jxz N k n j h i m false false false true) fun G => (bif G then oB (jJ N l 2 4) fun A => (some A) else some false) else bif decide (o = 9) then oB (jxz N k n j h i m false false false true) fun V => (bif V then some (decide (l = 2)) else some false) else bif decide (o = 10) then oB (jxz N k n j h i m false false true true) fun t => (bif t then bif decide (l = 1) then bif decide (i = 0) then oB (jJ N h 2 9) fun w => (some w) else (some false) else (some false) else some false) else some false) fun p => bif decide (a = 7) then p ((f.length : Int), a, true, a, c, b, d, e, f) else p ((f.length : Int), a, (decide (a = 8)), a, c, b, d, e, f))
theorem jBO (N : Nat) : mK 136 ⟨⟨[.agg [pI, pS, .pv (.sl .str), pI, pI, .pv (.sl .q)]], []⟩, ⟨[pB], []⟩, c6A (jyq N)⟩ :=
 mO (fC (jDV N) (fC (jgp N) (fC (jDs N) (fC (jcL N) (fC (jC1 N) ja))))) Tryz.func136 rfl N (.seq .no (.seq .no (.seq (.seq .no (.block (.seq .no (.cond .no (.seq .no (.cond .no (.seq .no (.cond .no (.seq .no (.cond .no (.seq .no (.cond .no (.seq .no (.cond .no (.meet jDP .no .no))))))))))))))) .no))) _
def jD7 : Sh := ⟨.dead :: pI :: .box 2 0 :: .dead :: .dead :: pI :: dz 23 [], [(2, false, [pI, pS, .pv (.sl .str), pI, pI, .pv (.sl .q)])]⟩
def jxO (N : Nat) : (D : Nat) → Int → Z0 → (List Z0) → Int → Int → (List DQ) → Int → Z6
 | 0, _, _, _, _, _, _, _ => none
 | D + 1, q, q2, q3, q4, q5, q6, deep =>
 bif decide (deep = 0) then
 some false
 else
 oB (jyq N q q2 q3 q4 q5 q6) fun r =>
 bif !r then
 some false
 else
 iter (fun go (g : Int × Int × Int × Z0 × (List Z0) × Int × Int × (List DQ)) =>
 match g with
 | (deep2, i, q7, q8, q9, q10, q11, q12) =>
 bif decide (i < (q12.length : Int)) then
 oB (idx q12 i) fun e =>
 (if fits (deep2 - 1) then oB (jxO N D e.kind e.field e.words e.lo e.hi e.kids (deep2 - 1)) fun r2 =>
 (bif !r2 then
 some false
 else
 if fits (i + 1) then go (deep2, (i + 1), q7, q8, q9, q10, q11, q12) else none) else none)
 else
 some true) N (deep, 0, q, q2, q3, q4, q5, q6)
def jx9 (N D : Nat) : Model := ⟨⟨[.agg [pI, pS, .pv (.sl .str), pI, pI, .pv (.sl .q)], pI], []⟩, ⟨[pB], []⟩, c7A (jxO N D)⟩
theorem jBT (N D : Nat) (ih : mK 89 (jx9 N D)) : mK 89 (jx9 N (D + 1)) :=
 mO (fC ih (fC (jBO N) ja)) Tryz.func89 rfl N (.seq .no (.seq .no (.seq (.seq .no (.block (.loop jD7 .no))) .no))) (jx9 N (D + 1))
theorem jzV (N : Nat) : ∀ D, mK 89 (jx9 N D)
 | 0 => modelOk_none ⟨_, Tryz.func89, by decide, by kernel_rfl⟩ _ (fun a => rfl)
 | D + 1 => jBT N D (jzV N D)
def s_l11Ok_m (N : Nat) (a : Int) (e : List UInt8) (h : List Z0) (c : Int) (f : Int) (b : List DQ) : Z6 :=
 (oB (jxO N N a e h c f b 4) fun d => some d)
theorem jBX (N : Nat) : mK 49 ⟨⟨[.agg [pI, pS, .pv (.sl .str), pI, pI, .pv (.sl .q)]], []⟩, ⟨[pB], []⟩, c6A (s_l11Ok_m N)⟩ :=
 mO (fC (jzV N N) ja) Tryz.func49 rfl N .no _
def jA0 : Sh := ⟨.dead :: pI :: .box 2 0 :: .dead :: .box 4 0 :: pI :: dz 21 [], [(2, false, [.pv Y2, .pv Y4]), (4, false, [pI, .nils, .nils])]⟩
def jyv (N : Nat) (k : List Z2) (j : List Z1) (i : Int) : Option Z2 :=
 (iter (fun f (d, a, b, l, h) => bif decide (a < (b.length : Int)) then oB (idx b a) fun m => (bif decide (m.1 = d) then oB (idx b a) fun c => (some (c.1, c.2.1, c.2.2)) else if fits (a + 1) then f (d, (a + 1), b, l, h) else none) else some (0, ([] : Z14), ([] : Z7))) N (i, (0 : Int), k, j, (0 : Int)))
theorem jDn (N : Nat) : mK 50 ⟨⟨[.agg [.pv Y2, .pv Y4], pI], []⟩, ⟨[.agg [pI, .pv Y18, .pv Y14]], []⟩, c3A (jyv N)⟩ :=
 mO ja Tryz.func50 rfl N (.seq .no (.seq (.seq .no (.block (.loop jA0 .no))) .no)) _
def jyC (N : Nat) (d : List Z0) (b : List Z4) (c : List UInt8) : Option (Z0) :=
 (oB (jcw N d b) fun f => bif !f then some ([] : List UInt8) else oB (jT N c) fun e => bif !e then some ([] : List UInt8) else oB (ja5 N d b c) fun a => bif decide ((a.length : Int) = 0) then some ([] : List UInt8) else oB (idx a 0) fun h => some h.1)
theorem jCy (N : Nat) : mK 91 ⟨⟨[.agg [.pv (.sl .str), .pv Y15], pS], []⟩, ⟨[pS], []⟩, c3A (jyC N)⟩ :=
 mO (fC (jtf N) (fC (jgp N) (fC (jiO N) ja))) Tryz.func91 rfl N .no _
def jtm : Sh := ⟨.dead :: pS :: pS :: .box 3 0 :: dz 3 (pI :: dz 31 []), [(3, false, [.pv Y2, .pv Y4])]⟩
def s_l7Posts_m (N : Nat) (k : List Z2) (l : List Z1) (n : List UInt8) (m : List UInt8) : Option (Z10) :=
 (iter (fun e (c, d, a, f, b) => bif decide (a < (b.length : Int)) then oB (idx b a) fun o => (bif decide (o.1 = c) then oB (idx b a) fun h => (bif decide (h.2.1 = d) then oB (idx b a) fun j => (some j.2.2) else if fits (a + 1) then e (c, d, (a + 1), f, b) else none) else if fits (a + 1) then e (c, d, (a + 1), f, b) else none) else some ([] : Z3)) N (n, m, (0 : Int), k, l))
theorem jh6 (N : Nat) : mK 141 ⟨⟨[.agg [.pv Y2, .pv Y4], pS, pS], []⟩, ⟨[.pv Y11], []⟩, c4A (s_l7Posts_m N)⟩ :=
 mO ja Tryz.func141 rfl N (.seq .no (.seq (.seq .no (.block (.loop jtm .no))) .no)) _
def jst : Sh := ⟨dz 3 (pI :: dz 5 (.pv Y11 :: pI :: dz 22 [])), []⟩
def s_l12At_m (N : Nat) (i : List Z2) (l : List Z1) (m : List UInt8) (j : List UInt8) (h : Int) : Option ((List Int)) :=
 (oB (s_l7Posts_m N i l m j) fun k => iter (fun f (c, b, a) => bif decide (a < (b.length : Int)) then oB (idx b a) fun n => (bif decide (n.1 = c) then oB (idx b a) fun d => (some d.2) else if fits (a + 1) then f (c, b, (a + 1)) else none) else some ([] : List Int)) N (h, k, (0 : Int)))
theorem jn1 (N : Nat) : mK 137 ⟨⟨[.agg [.pv Y2, .pv Y4], pS, pS, pI], []⟩, ⟨[.pv Y20], []⟩, c5A (s_l12At_m N)⟩ :=
 mO (fC (jh6 N) ja) Tryz.func137 rfl N (.seq .no (.seq .no (.seq (.seq .no (.block (.loop jst .no))) .no))) _
def jqS : Sh := ⟨.dead :: pS :: pI :: .box 3 0 :: dz 3 (pI :: pI :: dz 55 []), [(3, false, [.pv Y2, .pv Y4])]⟩
def jm7 : Sh := ⟨.dead :: pS :: pI :: .box 3 0 :: dz 3 (pI :: pI :: pI :: dz 54 []), [(3, false, [.pv Y2, .pv Y4])]⟩
def s_l7Long_m (N : Nat) (A : List Z2) (w : List Z1) (x : List UInt8) (q : Int) : Z9 :=
 (iter (fun l (z, u, n, o, t, k) => bif decide (o < (k.length : Int)) then iter (fun m (e, d, f, a, c, h, b) => oB (idx b a) fun B => bif decide (c < (B.2.2.length : Int)) then oB (idx b a) fun p => (bif decide (p.1 = e) then oB (idx b a) fun r => (oB (idx r.2.2 c) fun v => bif decide (v.1 = d) then oB (idx b a) fun y => (oB (idx y.2.2 c) fun j => if fits (f + (j.2.length : Int)) then if fits (c + 1) then m (e, d, (f + (j.2.length : Int)), a, (c + 1), h, b) else none else none) else if fits (c + 1) then m (e, d, f, a, (c + 1), h, b) else none) else if fits (a + 1) then l (e, d, f, (a + 1), h, b) else none) else if fits (a + 1) then l (e, d, f, (a + 1), h, b) else none) N (z, u, n, o, (0 : Int), t, k) else some n) N (x, q, (0 : Int), (0 : Int), A, w))
theorem jrY (N : Nat) : mK 139 ⟨⟨[.agg [.pv Y2, .pv Y4], pS, pI], []⟩, ⟨[pI], []⟩, c4A (s_l7Long_m N)⟩ :=
 mO ja Tryz.func139 rfl N (.seq .no (.seq .no (.seq (.seq .no (.block (.loop jqS (.seq .no (.seq (.block (.seq .no (.block (.loop jm7 .no)))) .no))))) .no))) _
def jsB : Sh := ⟨.dead :: pS :: .box 2 0 :: .dead :: .dead :: pI :: pI :: dz 43 [], [(2, false, [.pv Y2, .pv Y4])]⟩
def jnl : Sh := ⟨.dead :: pS :: .box 2 0 :: .dead :: .dead :: pI :: pI :: pI :: dz 42 [], [(2, false, [.pv Y2, .pv Y4])]⟩
def s_l12Total_m (N : Nat) (v : List Z2) (q : List Z1) (r : List UInt8) : Z9 :=
 (iter (fun k (u, l, m, p, j) => bif decide (m < (j.length : Int)) then iter (fun t (d, e, a, c, h, b) => oB (idx b a) fun w => bif decide (c < (w.2.2.length : Int)) then oB (idx b a) fun n => (bif decide (n.1 = d) then oB (idx b a) fun o => (oB (idx o.2.2 c) fun i => if fits (e + (i.2.length : Int)) then if fits (c + 1) then t (d, (e + (i.2.length : Int)), a, (c + 1), h, b) else none else none) else if fits (a + 1) then k (d, e, (a + 1), h, b) else none) else if fits (a + 1) then k (d, e, (a + 1), h, b) else none) N (u, l, m, (0 : Int), p, j) else some l) N (r, (0 : Int), (0 : Int), v, q))
theorem jn2 (N : Nat) : mK 140 ⟨⟨[.agg [.pv Y2, .pv Y4], pS], []⟩, ⟨[pI], []⟩, c3A (s_l12Total_m N)⟩ :=
 mO ja Tryz.func140 rfl N (.seq .no (.seq .no (.seq (.seq .no (.block (.loop jsB (.seq .no (.seq (.block (.seq .no (.block (.loop jnl .no)))) .no))))) .no))) _
def jsx : Sh := ⟨pI :: pI :: dz 3 (pI :: dz 13 []), []⟩
def jbz (N : Nat) (e : Int) (h : Int) : Z9 :=
 (iter (fun f (a, c, b) => bif decide ((0 : Int) < a) then if fits (a * 2) then bif decide ((a * 2) ≤ c) then if fits (a * 2) then if fits (b + 1) then f ((a * 2), c, (b + 1)) else none else none else (some b) else none else some b) N (e, h, (0 : Int)))
theorem jkd (N : Nat) : mK 191 ⟨⟨[pI, pI], []⟩, ⟨[pI], []⟩, c2A (jbz N)⟩ :=
 mO ja Tryz.func191 rfl N (.seq .no (.seq .no (.seq (.block (.loop jsx .no)) .no))) _
def jkC : Sh := ⟨pI :: pI :: dz 15 [], []⟩
def jaY (N : Nat) : (D : Nat) → Int → Int → Z9
 | 0, _, _ => none
 | D + 1, a, b =>
 meet (fun (g : Int × Int) =>
 match g with
 | (a2, b2) =>
 bif decide (b2 = 0) then
 some a2
 else
 if b2 ≠ 0 then
 oB (jaY N D b2 (a2.tmod b2)) fun r =>
 (some r)
 else none) fun J =>
 bif decide (a < 0) then
 if fits (0 - a) then J ((0 - a), b) else none
 else
 J (a, b)
def jcQ (N D : Nat) : Model := ⟨⟨[pI, pI], []⟩, ⟨[pI], []⟩, c2A (jaY N D)⟩
theorem jlI (N D : Nat) (ih : mK 234 (jcQ N D)) : mK 234 (jcQ N (D + 1)) :=
 mO (fC ih ja) Tryz.func234 rfl N (.seq .no (.meet jkC .no .no)) (jcQ N (D + 1))
theorem jeF (N : Nat) : ∀ D, mK 234 (jcQ N D)
 | 0 => modelOk_none ⟨_, Tryz.func234, by decide, by kernel_rfl⟩ _ (fun a => rfl)
 | D + 1 => jlI N D (jeF N D)
def jlg : Sh := ⟨pI :: pI :: .dead :: .dead :: .box 4 0 :: dz 17 [], [(4, false, [pI, pI])]⟩
def jcf (N : Nat) (e : Int) (b : Int) : Option (Int × Int) :=
 (meet (fun (h : Int × Int × Int × Int) => match h with | (d, c, i, j) => oB (jaY N N d c) fun a => if a ≠ 0 then if fits (d.tdiv a) then if a ≠ 0 then if fits (c.tdiv a) then some ((d.tdiv a), (c.tdiv a)) else none else none else none else none) fun f => bif decide (b < 0) then if fits (0 - e) then if fits (0 - b) then f ((0 - e), (0 - b), 0, 0) else none else none else f (e, b, 0, 0))
theorem jn4 (N : Nat) : mK 190 ⟨⟨[pI, pI], []⟩, ⟨[.agg [pI, pI]], []⟩, c2A (jcf N)⟩ :=
 mO (fC (jeF N N) ja) Tryz.func190 rfl N (.seq .no (.meet jlg .no .no)) _
def jqT : Sh := ⟨pI :: .dead :: .dead :: pI :: pI :: dz 5 (.box 10 0 :: pI :: dz 21 []), [(10, false, [pI, pI])]⟩
def s_l12Term_m (N : Nat) (j : Int) (d : Int) (c : Int) (a : Int) (f : Int) : Option (Int × Int) :=
 (meet (fun (l : Int × Int × Int × Int × Int × Int) => match l with | (b, m, n, h, o, p) => oB (jbz N n m) fun e => if fits (1 + e) then if fits ((1 + e) * 22) then if fits (((1 + e) * 22) * b) then if fits (10 * b) then if fits ((10 * b) + 3) then if fits (((10 * b) + 3) + h) then oB (jcf N (((1 + e) * 22) * b) (((10 * b) + 3) + h)) fun k => (some (k.1, k.2)) else none else none else none else none else none else none) fun i => bif decide ((0 : Int) < c) then if fits (d * a) then if fits ((d * a) * 9) then if c ≠ 0 then if fits (((d * a) * 9).tdiv c) then i (j, a, f, (((d * a) * 9).tdiv c), 0, 0) else none else none else none else none else i (j, a, f, 1, 0, 0))
theorem jtF (N : Nat) : mK 138 ⟨⟨[pI, pI, pI, pI, pI], []⟩, ⟨[.agg [pI, pI]], []⟩, c5A (s_l12Term_m N)⟩ :=
 mO (fC (jkd N) (fC (jn4 N) ja)) Tryz.func138 rfl N (.seq .no (.seq .no (.meet jqT .no .no))) _
def s_l12Points_m (N : Nat) (b : List Z2) (c : List Z1) (d : List UInt8) (f : List UInt8) (e : Int) : Z9 :=
 (oB (s_l12At_m N b c d f e) fun h => bif decide ((h.length : Int) = 0) then some 0 else oB (s_l7Long_m N b c d e) fun k => oB (s_l12Total_m N b c d) fun j => oB (s_l7Posts_m N b c d f) fun i => oB (s_l12Term_m N (h.length : Int) k j (b.length : Int) (i.length : Int)) fun a => if fits (a.1 * 1000) then if a.2 ≠ 0 then if fits ((a.1 * 1000).tdiv a.2) then some ((a.1 * 1000).tdiv a.2) else none else none else none)
theorem jrZ (N : Nat) : mK 90 ⟨⟨[.agg [.pv Y2, .pv Y4], pS, pS, pI], []⟩, ⟨[pI], []⟩, c5A (s_l12Points_m N)⟩ :=
 mO (fC (jn1 N) (fC (jrY N) (fC (jn2 N) (fC (jh6 N) (fC (jtF N) ja))))) Tryz.func90 rfl N .no _
def jAu : Sh := ⟨.pv (.sl .str) :: pS :: dz 3 (pS :: pI :: dz 18 []), []⟩
def jxS (N : Nat) (n : List Z0) (o : List UInt8) : Option (Z0) :=
 (iter (fun l (f, c, a, b) => bif decide (b < (f.length : Int)) then meet (fun (d : (List Z0) × Z0 × Z0 × Int) => match d with | (j, m, i, e) => oB (idx j e) fun k => if i.length + k.length ≤ 9223372036854775807 then if fits (e + 1) then l (j, m, (i ++ k), (e + 1)) else none else none) fun h => (bif decide ((0 : Int) < b) then if a.length + c.length ≤ 9223372036854775807 then h (f, c, (a ++ c), b) else none else h (f, c, a, b)) else some a) N (n, o, ([] : List UInt8), (0 : Int)))
theorem jAy (N : Nat) : mK 145 ⟨⟨[.pv (.sl .str), pS], []⟩, ⟨[pS], []⟩, c2A (jxS N)⟩ :=
 mO ja Tryz.func145 rfl N (.seq .no (.seq .no (.seq (.seq .no (.block (.loop jAu (.seq .no (.seq (.block (.meet jAu .no .no)) .no))))) .no))) _
def jB2 : Sh := ⟨dz 3 (pI :: .dead :: .box 5 0 :: .box 6 0 :: .dead :: .dead :: .own 600009 Y20 54 true :: .own 600010 Y16 186 true :: pI :: dz 65 []), [(5, false, [.pv Y2, .pv Y4]), (6, false, [pI, pS, .pv (.sl .str), pI, pI, .pv (.sl .q)])]⟩
def jCf : Sh := ⟨dz 3 (pI :: .dead :: .box 5 0 :: .box 6 0 :: .dead :: .dead :: .own 600009 Y20 54 true :: .own 600010 Y16 186 true :: pI :: pI :: .pv Y20 :: .own 600014 tI 3 true :: pI :: dz 61 []), [(5, false, [.pv Y2, .pv Y4]), (6, false, [pI, pS, .pv (.sl .str), pI, pI, .pv (.sl .q)])]⟩
def jyf (N : Nat) (c : List Z0) (c2 : List Z4) (s : List Z2) (s2 : List Z1) (q : Int) (q2 : List UInt8) (q3 : List Z0) (q4 : Int) (q5 : Int) (q6 : List DQ) (id : Int) : Option (Z16) :=
 (oB (jxS N q3 ([32] : List UInt8)) fun r => oB (ja5 N c c2 r) fun r2 => iter (fun go (id2, out, terms, i, s3, s4, q7, q8, q9, q10, q11, q12) => bif decide (i < (terms.length : Int)) then oB (idx terms i) fun e => (oB (idx terms 0) fun e2 => if fits (e.2 - e2.2) then if fits ((e.2 - e2.2) - i) then oB (idx terms i) fun e3 => (oB (s_l12At_m N s3 s4 q8 e3.1 id2) fun r3 => iter (fun go2 (id3, out2, terms2, i2, shift, at0, list, k, s5, s6, q13, q14, q15, q16, q17, q18) => bif decide (k < (at0.length : Int)) then oB (idx at0 k) fun e4 => (bif decide (shift ≤ e4) then oB (idx at0 k) fun e5 => (if fits (e5 - shift) then if room list.length ([(e5 - shift)] : List Int).length 8 then if fits (k + 1) then go2 (id3, out2, terms2, i2, shift, at0, (list ++ ([(e5 - shift)] : List Int)), (k + 1), s5, s6, q13, q14, q15, q16, q17, q18) else none else none else none) else if fits (k + 1) then go2 (id3, out2, terms2, i2, shift, at0, list, (k + 1), s5, s6, q13, q14, q15, q16, q17, q18) else none) else if room out2.length ([list] : List (List Int)).length 24 then if fits (i2 + 1) then go (id3, (out2 ++ ([list] : List (List Int))), terms2, (i2 + 1), s5, s6, q13, q14, q15, q16, q17, q18) else none else none) N (id2, out, terms, i, ((e.2 - e2.2) - i), r3, ([] : List Int), (0 : Int), s3, s4, q7, q8, q9, q10, q11, q12)) else none else none) else some out) N (id, ([] : List (List Int)), r2, (0 : Int), s, s2, q, q2, q3, q4, q5, q6))
theorem jCm (N : Nat) : mK 143 ⟨⟨[.agg [.pv (.sl .str), .pv Y15], .agg [.pv Y2, .pv Y4], .agg [pI, pS, .pv (.sl .str), pI, pI, .pv (.sl .q)], pI], []⟩, ⟨[.own 1 Y20 54 true], []⟩, c11A (jyf N)⟩ :=
 mO (fC (jAy N) (fC (jiO N) (fC (jn1 N) ja))) Tryz.func143 rfl N (.seq .no (.seq .no (.seq .no (.seq (.seq .no (.block (.loop jB2 (.seq .no (.seq (.block (.seq .no (.seq .no (.seq .no (.seq (.seq .no (.block (.loop jCf .no))) .no))))) .no))))) .no)))) _
def jCI : Sh := ⟨.pv Y20 :: .dead :: .dead :: pI :: dz 31 [], []⟩
def jx3 (N : Nat) (i : List Int) : Z6 :=
 (iter (fun c (b, a) => bif decide (a < (b.length : Int)) then oB (idx b a) fun j => (oB (jJ N j 0 999999999) fun h => bif !h then some false else bif decide ((0 : Int) < a) then oB (idx b a) fun d => (if fits (a - 1) then oB (idx b (a - 1)) fun f => (bif decide (d ≤ f) then some false else if fits (a + 1) then c (b, (a + 1)) else none) else none) else if fits (a + 1) then c (b, (a + 1)) else none) else some (decide ((b.length : Int) ≤ 60))) N (i, (0 : Int)))
theorem jC9 (N : Nat) : mK 194 ⟨⟨[.pv Y20], []⟩, ⟨[pB], []⟩, c1A (jx3 N)⟩ :=
 mO (fC (jcL N) ja) Tryz.func194 rfl N (.seq .no (.seq (.seq .no (.block (.loop jCI .no))) .no)) _
def jBI : Sh := ⟨.pv (.sl Y20) :: pI :: pI :: pI :: pI :: dz 6 (pI :: dz 46 []), []⟩
def jxJ (N : Nat) : (D : Nat) → Z16 → Int → Int → Int → Int → Z6
 | 0, _, _, _, _, _ => none
 | D + 1, lists, k, last, start, slop =>
 bif decide (k = (lists.length : Int)) then
 if fits (last - start) then if fits ((lists.length : Int) - 1) then if fits ((last - start) - ((lists.length : Int) - 1)) then some (decide (((last - start) - ((lists.length : Int) - 1)) ≤ slop)) else none else none else none
 else
 iter (fun go (g : Z16 × Int × Int × Int × Int × Int) =>
 match g with
 | (lists2, k2, last2, start2, slop2, i) =>
 oB (idx lists2 k2) fun e =>
 bif decide (i < (e.length : Int)) then
 oB (idx lists2 k2) fun e2 =>
 (oB (idx e2 i) fun e3 =>
 bif decide (last2 < e3) then
 if fits (k2 + 1) then oB (idx lists2 k2) fun e4 =>
 (oB (idx e4 i) fun e5 =>
 oB (jxJ N D lists2 (k2 + 1) e5 start2 slop2) fun r =>
 bif r then
 some true
 else
 if fits (i + 1) then go (lists2, k2, last2, start2, slop2, (i + 1)) else none) else none
 else
 if fits (i + 1) then go (lists2, k2, last2, start2, slop2, (i + 1)) else none)
 else
 some false) N (lists, k, last, start, slop, 0)
def jyj (N D : Nat) : Model := ⟨⟨[.pv (.sl Y20), pI, pI, pI, pI], []⟩, ⟨[pB], []⟩, c5A (jxJ N D)⟩
theorem jD8 (N D : Nat) (ih : mK 195 (jyj N D)) : mK 195 (jyj N (D + 1)) :=
 mO (fC ih ja) Tryz.func195 rfl N (.seq .no (.seq .no (.seq (.seq .no (.block (.loop jBI .no))) .no))) (jyj N (D + 1))
theorem jzt (N : Nat) : ∀ D, mK 195 (jyj N D)
 | 0 => modelOk_none ⟨_, Tryz.func195, by decide, by kernel_rfl⟩ _ (fun a => rfl)
 | D + 1 => jD8 N D (jzt N D)
def jCF : Sh := ⟨.pv (.sl Y20) :: pI :: dz 3 (.own 600005 tI 3 true :: pI :: dz 56 []), []⟩
def jBd : Sh := ⟨.pv (.sl Y20) :: pI :: dz 3 (.own 600005 tI 3 true :: .dead :: pI :: dz 55 []), []⟩
def jyb (N : Nat) (o : List (List Int)) (z : Int) : Option ((List Int)) :=
 (iter (fun u (c, h, l, e) => bif decide (e < (c.length : Int)) then oB (idx c e) fun A => (oB (jx3 N A) fun x => bif !x then some ([] : List Int) else if fits (e + 1) then u (c, h, l, (e + 1)) else none) else oB (jJ N (c.length : Int) 1 6) fun q => bif !q then some ([] : List Int) else oB (jJ N h 0 5) fun w => bif !w then some ([] : List Int) else iter (fun k (b, f, d, a) => oB (idx b 0) fun m => bif decide (a < (m.length : Int)) then oB (idx b 0) fun n => (oB (idx n a) fun r => oB (idx b 0) fun v => oB (idx v a) fun p => oB (jxJ N N b 1 r p f) fun t => bif t then oB (idx b 0) fun y => (oB (idx y a) fun j => if room d.length ([j] : List Int).length 8 then if fits (a + 1) then k (b, f, (d ++ ([j] : List Int)), (a + 1)) else none else none) else if fits (a + 1) then k (b, f, d, (a + 1)) else none) else some d) N (c, h, l, (0 : Int))) N (o, z, ([] : List Int), (0 : Int)))
theorem jAW (N : Nat) : mK 144 ⟨⟨[.pv (.sl Y20), pI], []⟩, ⟨[.own 1 tI 3 true], []⟩, c2A (jyb N)⟩ :=
 mO (fC (jC9 N) (fC (jcL N) (fC (jzt N N) ja))) Tryz.func144 rfl N (.seq .no (.seq .no (.seq (.seq .no (.block (.loop jCF .no))) (.seq .no (.seq (.seq .no (.block (.loop jBd .no))) .no))))) _
def jCQ : Sh := ⟨dz 3 (pI :: .dead :: .box 5 0 :: .box 6 0 :: dz 3 (pI :: pI :: .own 600012 Y16 186 true :: pI :: dz 41 [])), [(5, false, [.pv Y2, .pv Y4]), (6, false, [pI, pS, .pv (.sl .str), pI, pI, .pv (.sl .q)])]⟩
def jCS : Sh := ⟨dz 3 (pI :: .box 4 0 :: .box 5 0 :: .box 6 0 :: dz 3 (pI :: dz 44 [])), [(4, false, [.pv (.sl .str), .pv Y15]), (5, false, [.pv Y2, .pv Y4]), (6, false, [pI, pS, .pv (.sl .str), pI, pI, .pv (.sl .q)])]⟩
def jx2 (N : Nat) (i : List Z0) (f : List Z4) (p : List Z2) (h : List Z1) (d : Int) (j : List UInt8) (n : List Z0) (c : Int) (q : Int) (l : List DQ) (e : Int) : Z9 :=
 (oB (jyf N i f p h d j n c q l e) fun z => bif decide ((z.length : Int) = 0) then some 0 else oB (jyb N z c) fun u => meet (fun (o : Int × Int × (List Z0) × (List Z4) × (List Z2) × (List Z1) × Int × Z0 × (List Z0) × Int × Int × (List DQ)) => match o with | (U, X, E, G, T, V, H, aa, t, I, O, Q) => oB (jxS N t ([32] : List UInt8)) fun R => oB (ja5 N E G R) fun W => iter (fun K (r, m, a, k, b, A, v, D, w, S, L, C, P) => bif decide (b < (k.length : Int)) then oB (idx k b) fun B => (oB (s_l12Points_m N A v w B.1 r) fun y => if fits (a + y) then if fits (b + 1) then K (r, m, (a + y), k, (b + 1), A, v, D, w, S, L, C, P) else none else none) else if fits (a * m) then some (a * m) else none) N (U, X, (0 : Int), W, (0 : Int), T, V, H, aa, t, I, O, Q)) fun x => bif decide ((3 : Int) < (u.length : Int)) then x (e, 3, i, f, p, h, d, j, n, c, q, l) else x (e, (u.length : Int), i, f, p, h, d, j, n, c, q, l))
theorem jAL (N : Nat) : mK 92 ⟨⟨[.agg [.pv (.sl .str), .pv Y15], .agg [.pv Y2, .pv Y4], .agg [pI, pS, .pv (.sl .str), pI, pI, .pv (.sl .q)], pI], []⟩, ⟨[pI], []⟩, c11A (jx2 N)⟩ :=
 mO (fC (jCm N) (fC (jAW N) (fC (jAy N) (fC (jiO N) (fC (jrZ N) ja))))) Tryz.func92 rfl N (.seq .no (.seq .no (.seq .no (.seq .no (.meet jCS .no (.seq .no (.seq .no (.seq (.seq .no (.block (.loop jCQ .no))) .no)))))))) _
def s_l5Min_m (N : Nat) (a : Int) (b : Int) : Z9 :=
 (bif decide (a < b) then some a else some b)
theorem jDQ (N : Nat) : mK 81 ⟨⟨[pI, pI], []⟩, ⟨[pI], []⟩, c2A (s_l5Min_m N)⟩ :=
 mO ja Tryz.func81 rfl N .no _
def jCw : Sh := ⟨pS :: pS :: dz 3 (.mtk 600005 tI 3 true :: pI :: dz 74 []), []⟩
def jDJ : Sh := ⟨pS :: pS :: dz 3 (.mtk 600005 tI 3 true :: .dead :: pI :: dz 73 []), []⟩
def jDM : Sh := ⟨pS :: pS :: dz 3 (.mtk 600005 tI 3 true :: .dead :: pI :: pI :: pI :: dz 71 []), []⟩
def jBZ : Sh := ⟨pS :: pS :: dz 3 (.mtk 600005 tI 3 true :: .dead :: pI :: .dead :: pI :: pI :: dz 70 []), []⟩
def s_l5Far_m (N : Nat) (P : List UInt8) (d : List UInt8) : Z9 :=
 (if fits ((d.length : Int) + 1) then if ((d.length : Int) + 1) = ((d.length : Int) + 1) ∧ 0 ≤ ((d.length : Int) + 1) ∧ ((d.length : Int) + 1) * 8 ≤ 140737488355328 ∧ ((d.length : Int) + 1) ≤ 140737488355328 then iter (fun B (u, o, m, c) => bif decide (c ≤ (o.length : Int)) then if 0 ≤ c ∧ c < (m.length : Int) then oB (m[c.toNat]?) fun S => (if fits (c + 1) then B (u, o, (m.set c.toNat c), (c + 1)) else none) else none else iter (fun C (r, n, e, l) => bif decide (l < (r.length : Int)) then if 0 ≤ (0 : Int) ∧ (0 : Int) < (e.length : Int) then oB (e[(0 : Int).toNat]?) fun w => (if fits (l + 1) then if 0 ≤ (0 : Int) ∧ (0 : Int) < (e.length : Int) then oB (e[(0 : Int).toNat]?) fun Q => (iter (fun G (j, i, p, h, q, k) => bif decide (k < (i.length : Int)) then meet (fun (f : Z17) => match f with | (A, E, b, K, a, D) => if fits (a + 1) then if 0 ≤ (a + 1) ∧ (a + 1) < (b.length : Int) then oB (b[(a + 1).toNat]?) fun L => (if fits (a + 1) then if 0 ≤ a ∧ a < (b.length : Int) then oB (b[a.toNat]?) fun O => (if fits (a + 1) then if 0 ≤ (a + 1) ∧ (a + 1) < (b.length : Int) then oB (b[(a + 1).toNat]?) fun I => (oB (s_l5Min_m N O I) fun v => if fits (v + 1) then oB (s_l5Min_m N D (v + 1)) fun y => (if 0 ≤ (a + 1) ∧ (a + 1) < (b.length : Int) then oB (b[(a + 1).toNat]?) fun R => (if fits (a + 1) then G (A, E, (b.set (a + 1).toNat y), K, L, (a + 1)) else none) else none) else none) else none else none) else none else none) else none else none) fun t => (oB (idx j h) fun z => oB (idx i k) fun x => bif !decide ((z.toNat : Int) = (x.toNat : Int)) then if fits (q + 1) then t (j, i, p, h, k, (q + 1)) else none else t (j, i, p, h, k, q)) else if fits (h + 1) then C (j, i, p, (h + 1)) else none) N (r, n, (e.set (0 : Int).toNat (l + 1)), l, w, (0 : Int))) else none else none) else none else if 0 ≤ (n.length : Int) ∧ (n.length : Int) < (e.length : Int) then oB (e[(n.length : Int).toNat]?) fun H => (some H) else none) N (u, o, m, (0 : Int))) N (P, d, (List.replicate ((d.length : Int) + 1).toNat 0), (0 : Int)) else none else none)
theorem jBt (N : Nat) : mK 146 ⟨⟨[pS, pS], []⟩, ⟨[pI], []⟩, c2A (s_l5Far_m N)⟩ :=
 mO (fC (jDQ N) ja) Tryz.func146 rfl N (.seq .no (.seq .no (.seq (.seq .no (.block (.loop jCw .no))) (.seq (.seq .no (.block (.loop jDJ (.seq .no (.seq (.block (.seq .no (.seq .no (.seq .no (.block (.loop jDM (.seq .no (.seq (.block (.seq .no (.meet jBZ .no .no))) .no)))))))) .no))))) .no)))) _ (wr := [14])
def jC5 : Sh := ⟨.dead :: .dead :: pI :: .box 3 0 :: .box 4 0 :: .dead :: .dead :: pI :: pI :: dz 49 [], [(3, false, [.pv Y2, .pv Y4]), (4, false, [pI, pS, .pv (.sl .str), pI, pI, .pv (.sl .q)])]⟩
def jx5 (N : Nat) (A : List Z2) (v : List Z1) (r : Int) (z : List UInt8) (x : List Z0) (w : Int) (B : Int) (t : List DQ) (u : Int) : Z9 :=
 (iter (fun m (i, e, a, f, b, l, c, h, j, n, o) => bif decide (a < (b.length : Int)) then oB (idx b a) fun p => (oB (idx h 0) fun q => oB (s_l5Far_m N p.2.1 q) fun d => bif !decide (p.1 = c) then if fits (a + 1) then m (i, e, (a + 1), f, b, l, c, h, j, n, o) else none else bif decide (j < d) then if fits (a + 1) then m (i, e, (a + 1), f, b, l, c, h, j, n, o) else none else oB (s_l12Points_m N f b c p.2.1 i) fun k => if fits (3 - d) then if fits (k * (3 - d)) then if 3 ≠ 0 then if fits ((k * (3 - d)).tdiv 3) then bif decide (e < ((k * (3 - d)).tdiv 3)) then if fits (a + 1) then m (i, ((k * (3 - d)).tdiv 3), (a + 1), f, b, l, c, h, j, n, o) else none else (if fits (a + 1) then m (i, e, (a + 1), f, b, l, c, h, j, n, o) else none) else none else none else none else none) else some e) N (u, (0 : Int), (0 : Int), A, v, r, z, x, w, B, t))
theorem jCb (N : Nat) : mK 93 ⟨⟨[.agg [.pv Y2, .pv Y4], .agg [pI, pS, .pv (.sl .str), pI, pI, .pv (.sl .q)], pI], []⟩, ⟨[pI], []⟩, c9A (jx5 N)⟩ :=
 mO (fC (jBt N) (fC (jrZ N) ja)) Tryz.func93 rfl N (.seq .no (.seq .no (.seq (.seq .no (.block (.loop jC5 .no))) .no))) _
def jxB (N : Nat) : (D : Nat) → Z0 → Z0 → Z6
 | 0, _, _ => none
 | D + 1, p, s =>
 bif decide (p = ([] : List UInt8)) then
 some (decide (s = ([] : List UInt8)))
 else
 oB (idx p 0) fun c =>
 bif decide ((c.toNat : Int) = 42) then
 oB (cut p 1 (p.length : Int)) fun y =>
 (oB (jxB N D y s) fun r =>
 bif r then
 some true
 else
 bif !decide (s = ([] : List UInt8)) then
 oB (cut s 1 (s.length : Int)) fun y2 =>
 (oB (jxB N D p y2) fun r2 =>
 some r2)
 else
 some false)
 else
 bif !decide (s = ([] : List UInt8)) then
 oB (idx p 0) fun c2 =>
 (bif decide ((c2.toNat : Int) = 63) then
 oB (cut p 1 (p.length : Int)) fun y3 =>
 (oB (cut s 1 (s.length : Int)) fun y4 =>
 oB (jxB N D y3 y4) fun r3 =>
 some r3)
 else
 oB (idx p 0) fun c3 =>
 oB (idx s 0) fun c4 =>
 bif decide ((c3.toNat : Int) = (c4.toNat : Int)) then
 oB (cut p 1 (p.length : Int)) fun y5 =>
 (oB (cut s 1 (s.length : Int)) fun y6 =>
 oB (jxB N D y5 y6) fun r4 =>
 some r4)
 else
 some false)
 else
 some false
def jyr (N D : Nat) : Model := ⟨⟨[pS, pS], []⟩, ⟨[pB], []⟩, c2A (jxB N D)⟩
theorem jDg (N D : Nat) (ih : mK 147 (jyr N D)) : mK 147 (jyr N (D + 1)) :=
 mO (fC ih ja) Tryz.func147 rfl N .no (jyr N (D + 1))
theorem jzM (N : Nat) : ∀ D, mK 147 (jyr N D)
 | 0 => modelOk_none ⟨_, Tryz.func147, by decide, by kernel_rfl⟩ _ (fun a => rfl)
 | D + 1 => jDg N D (jzM N D)
def jBi : Sh := ⟨.dead :: .dead :: pI :: .box 3 0 :: .box 4 0 :: .dead :: .dead :: pI :: dz 38 [], [(3, false, [.pv Y2, .pv Y4]), (4, false, [pI, pS, .pv (.sl .str), pI, pI, .pv (.sl .q)])]⟩
def jyd (N : Nat) (z : List Z2) (t : List Z1) (o : Int) (x : List UInt8) (v : List Z0) (u : Int) (A : Int) (p : List DQ) (q : Int) : Z6 :=
 (iter (fun j (f, a, d, b, h, c, e, i, k, l) => bif decide (a < (b.length : Int)) then oB (idx b a) fun m => (bif decide (m.1 = c) then oB (idx e 0) fun n => (oB (jxB N N n m.2.1) fun y => bif y then oB (s_l12At_m N d b c m.2.1 f) fun r => (bif decide ((0 : Int) < (r.length : Int)) then some true else if fits (a + 1) then j (f, (a + 1), d, b, h, c, e, i, k, l) else none) else if fits (a + 1) then j (f, (a + 1), d, b, h, c, e, i, k, l) else none) else if fits (a + 1) then j (f, (a + 1), d, b, h, c, e, i, k, l) else none) else some false) N (q, (0 : Int), z, t, o, x, v, u, A, p))
theorem jCi (N : Nat) : mK 95 ⟨⟨[.agg [.pv Y2, .pv Y4], .agg [pI, pS, .pv (.sl .str), pI, pI, .pv (.sl .q)], pI], []⟩, ⟨[pB], []⟩, c9A (jyd N)⟩ :=
 mO (fC (jzM N N) (fC (jn1 N) ja)) Tryz.func95 rfl N (.seq .no (.seq (.seq .no (.block (.loop jBi .no))) .no)) _
def jyV (N : Nat) (a : Bool) : Z9 :=
 (bif a then some 100 else some 0)
theorem jCo (N : Nat) : mK 94 ⟨⟨[pB], []⟩, ⟨[pI], []⟩, c1A (jyV N)⟩ :=
 mO ja Tryz.func94 rfl N .no _
def jym (N : Nat) (m : Int) (j : Z14) (h : Z7) (i : List UInt8) : Z9 :=
 (iter (fun f (c, a, l, k, b) => bif decide (a < (b.length : Int)) then oB (idx b a) fun n => (bif decide (n.1 = c) then oB (idx b a) fun d => (some d.2) else if fits (a + 1) then f (c, (a + 1), l, k, b) else none) else some (-1)) N (i, (0 : Int), m, j, h))
theorem jDS (N : Nat) : mK 96 ⟨⟨[.agg [pI, .pv Y18, .pv Y14], pS], []⟩, ⟨[pI], []⟩, c4A (jym N)⟩ :=
 mO ja Tryz.func96 rfl N (.seq .no (.seq (.seq .no (.block (.loop jl8 .no))) .no)) _
def jDX : Sh := ⟨dz 3 (pI :: .box 4 0 :: .box 5 0 :: .box 6 0 :: .dead :: .dead :: pI :: pI :: dz 111 []), [(4, false, [.pv (.sl .str), .pv Y15]), (5, false, [.pv Y2, .pv Y4]), (6, false, [pI, pS, .pv (.sl .str), pI, pI, .pv (.sl .q)])]⟩
def s_l12Score_m (N : Nat) : (D : Nat) → (List Z0) → (List Z4) → (List Z2) → (List Z1) → Int → Z0 → (List Z0) → Int → Int → (List DQ) → Int → Z9
 | 0, _, _, _, _, _, _, _, _, _, _, _ => none
 | D + 1, c, c2, s, s2, q, q2, q3, q4, q5, q6, id =>
 bif decide (q = 1) then
 some 100
 else
 bif decide (q = 2) then
 oB (idx q3 0) fun e =>
 (oB (jyC N c c2 e) fun r =>
 oB (s_l12Points_m N s s2 q2 r id) fun r2 =>
 some r2)
 else
 bif decide (q = 3) then
 oB (jx2 N c c2 s s2 q q2 q3 q4 q5 q6 id) fun r3 =>
 (some r3)
 else
 bif decide (q = 4) then
 oB (jx5 N s s2 q q2 q3 q4 q5 q6 id) fun r4 =>
 (some r4)
 else
 bif decide (q = 5) then
 oB (jyd N s s2 q q2 q3 q4 q5 q6 id) fun r5 =>
 (oB (jyV N r5) fun r6 =>
 some r6)
 else
 bif decide (q = 6) then
 oB (jyv N s s2 id) fun r7 =>
 (oB (jym N r7.1 r7.2.1 r7.2.2 q2) fun r8 =>
 oB (jJ N r8 q4 q5) fun r9 =>
 oB (jyV N r9) fun r10 =>
 some r10)
 else
 bif decide (q = 10) then
 oB (idx q6 0) fun e2 =>
 (oB (s_l12Score_m N D c c2 s s2 e2.kind e2.field e2.words e2.lo e2.hi e2.kids id) fun r11 =>
 if fits (q4 * r11) then some (q4 * r11) else none)
 else
 bif decide (q = 9) then
 oB (idx q6 1) fun e3 =>
 (oB (s_l12Score_m N D c c2 s s2 e3.kind e3.field e3.words e3.lo e3.hi e3.kids id) fun r12 =>
 bif decide ((0 : Int) < r12) then
 some 0
 else
 oB (idx q6 0) fun e4 =>
 oB (s_l12Score_m N D c c2 s s2 e4.kind e4.field e4.words e4.lo e4.hi e4.kids id) fun r13 =>
 some r13)
 else
 iter (fun go (g : Int × Int × Int × (List Z0) × (List Z4) × (List Z2) × (List Z1) × Int × Z0 × (List Z0) × Int × Int × (List DQ)) =>
 match g with
 | (id2, sum, i, c3, c4, s3, s4, q7, q8, q9, q10, q11, q12) =>
 bif decide (i < (q12.length : Int)) then
 oB (idx q12 i) fun e5 =>
 (oB (s_l12Score_m N D c3 c4 s3 s4 e5.kind e5.field e5.words e5.lo e5.hi e5.kids id2) fun r14 =>
 bif decide (r14 = 0) then
 bif decide (q7 = 7) then
 some 0
 else
 (if fits (sum + r14) then if fits (i + 1) then go (id2, (sum + r14), (i + 1), c3, c4, s3, s4, q7, q8, q9, q10, q11, q12) else none else none)
 else
 if fits (sum + r14) then if fits (i + 1) then go (id2, (sum + r14), (i + 1), c3, c4, s3, s4, q7, q8, q9, q10, q11, q12) else none else none)
 else
 some sum) N (id, 0, 0, c, c2, s, s2, q, q2, q3, q4, q5, q6)
def jyz (N D : Nat) : Model := ⟨⟨[.agg [.pv (.sl .str), .pv Y15], .agg [.pv Y2, .pv Y4], .agg [pI, pS, .pv (.sl .str), pI, pI, .pv (.sl .q)], pI], []⟩, ⟨[pI], []⟩, c11A (s_l12Score_m N D)⟩
theorem jBH (N D : Nat) (ih : mK 51 (jyz N D)) : mK 51 (jyz N (D + 1)) :=
 mO (fC ih (fC (jCy N) (fC (jrZ N) (fC (jAL N) (fC (jCb N) (fC (jCi N) (fC (jCo N) (fC (jDn N) (fC (jDS N) (fC (jcL N) ja)))))))))) Tryz.func51 rfl N (.seq .no (.seq .no (.seq .no (.seq (.seq .no (.block (.loop jDX .no))) .no)))) (jyz N (D + 1))
theorem jz7 (N : Nat) : ∀ D, mK 51 (jyz N D)
 | 0 => modelOk_none ⟨_, Tryz.func51, by decide, by kernel_rfl⟩ _ (fun a => rfl)
 | D + 1 => jBH N D (jz7 N D)
def jqv : Sh := ⟨.dead :: pI :: .dead :: .dead :: .box 4 0 :: dz 6 (.pv Y2 :: pI :: pI :: dz 10 []), [(4, false, [pI, .nils, .nils])]⟩
def i_Seg_doc_m (N : Nat) (f : (List Z2) × (List Z1)) (k : Int) : Option (Int × Z11 × Z5 × Bool) :=
 (iter (fun h (e, c, d, a, j) => bif decide (a < d) then oB (idx c a) fun b => (bif decide (b.1 = e) then some (b.1, b.2.1, b.2.2, true) else if fits (a + 1) then h (e, c, d, (a + 1), j) else none) else some (0, ([] : Z14), ([] : Z7), false)) N (k, f.1, (f.1.length : Int), (0 : Int), (0 : Int)))
theorem jlU (N : Nat) : mK 57 ⟨⟨[.ptr Y1, pI], []⟩, ⟨[.tup [.agg [pI, .pv Y18, .pv Y14], pB]], []⟩, c2A (i_Seg_doc_m N)⟩ :=
 mO ja Tryz.func57 rfl N (.seq .no (.seq (.seq .no (.block (.loop jqv .no))) .no)) _
def jaw (N : Nat) (a : Int) : Z6 :=
 (bif decide ((97 : Int) ≤ a) then bif decide (a ≤ 122) then some true else (bif decide ((48 : Int) ≤ a) then some (decide (a ≤ 57)) else some false) else bif decide ((48 : Int) ≤ a) then some (decide (a ≤ 57)) else some false)
theorem jeK (N : Nat) : mK 199 ⟨⟨[.pv (.int .u8)], []⟩, ⟨[pB], []⟩, c1A (jaw N)⟩ :=
 mO ja Tryz.func199 rfl N .no _
def jm (N : Nat) (a : Int) (b : Int) (c : Int) : Z6 :=
 (bif decide (b ≤ a) then some (decide (a ≤ c)) else some false)
theorem jY (N : Nat) : mK 74 ⟨⟨[pI, pI, pI], []⟩, ⟨[pB], []⟩, c3A (jm N)⟩ :=
 mO ja Tryz.func74 rfl N .no _
def jqW : Sh := ⟨pS :: dz 4 (pI :: pI :: dz 11 []), []⟩
def jO (N : Nat) (c : List UInt8) : Z6 :=
 (iter (fun f (b, d, a) => bif decide (a < d) then oB (idx b a) fun j => (oB (jaw N (j.toNat : Int)) fun i => bif !i then some false else if fits (a + 1) then f (b, d, (a + 1)) else none) else oB (jm N (b.length : Int) 1 12) fun h => some h) N (c, (c.length : Int), (0 : Int)))
theorem jcM (N : Nat) : mK 152 ⟨⟨[pS], []⟩, ⟨[pB], []⟩, c1A (jO N)⟩ :=
 mO (fC (jeK N) (fC (jY N) ja)) Tryz.func152 rfl N (.seq .no (.seq (.seq .no (.block (.loop jqW .no))) .no)) _
def jmc : Sh := ⟨.pv (.sl .str) :: dz 4 (.pv (.sl .str) :: pI :: pI :: dz 21 []), []⟩
def jb2 (N : Nat) (d : List Z0) : Z6 :=
 (iter (fun f (b, e, c, a) => bif decide (a < c) then oB (idx e a) fun h => (oB (jO N h) fun k => bif !k then some false else bif decide ((0 : Int) < a) then if fits (a - 1) then oB (idx b (a - 1)) fun i => (bif !Op.bytesLess i h then some false else if fits (a + 1) then f (b, e, c, (a + 1)) else none) else none else if fits (a + 1) then f (b, e, c, (a + 1)) else none) else some true) N (d, d, (d.length : Int), (0 : Int)))
theorem jtw (N : Nat) : mK 151 ⟨⟨[.pv (.sl .str)], []⟩, ⟨[pB], []⟩, c1A (jb2 N)⟩ :=
 mO (fC (jcM N) ja) Tryz.func151 rfl N (.seq .no (.seq (.seq .no (.block (.loop jmc .no))) .no)) _
def jdF (N : Nat) (a : List UInt8) (b : List UInt8) : Z6 :=
 (bif decide ((b.length : Int) ≤ (a.length : Int)) then if fits ((a.length : Int) - (b.length : Int)) then oB (cut a ((a.length : Int) - (b.length : Int)) (a.length : Int)) fun c => (some (decide (c = b))) else none else some false)
theorem jpU (N : Nat) : mK 238 ⟨⟨[pS, pS], []⟩, ⟨[pB], []⟩, c2A (jdF N)⟩ :=
 mO ja Tryz.func238 rfl N .no _
def jcN (N : Nat) (b : List UInt8) (c : List UInt8) : Z6 :=
 (oB (jdF N b c) fun a => some a)
theorem jsu (N : Nat) : mK 200 ⟨⟨[pS, pS], []⟩, ⟨[pB], []⟩, c2A (jcN N)⟩ :=
 mO (fC (jpU N) ja) Tryz.func200 rfl N .no _
def jod : Sh := ⟨pS :: .dead :: .dead :: pB :: dz 32 [], []⟩
def jnf : Sh := ⟨pS :: .dead :: .dead :: pB :: dz 6 (.own 600010 .str 9 true :: pI :: pI :: dz 23 []), []⟩
def jaB (N : Nat) (k : List UInt8) : Option (Z0) :=
 (oB (jO N k) fun n => bif !n then some ([] : List UInt8) else iter (fun i (l, o) => bif o then iter (fun j (a, h, f, e, b) => bif decide (b < e) then oB (idx f b) fun c => (oB (jcN N a c) fun m => bif m then if fits ((a.length : Int) - (c.length : Int)) then bif decide ((3 : Int) ≤ ((a.length : Int) - (c.length : Int))) then if fits ((a.length : Int) - (c.length : Int)) then oB (cut a 0 ((a.length : Int) - (c.length : Int))) fun p => (i (p, true)) else none else (if fits (b + 1) then j (a, h, f, e, (b + 1)) else none) else none else if fits (b + 1) then j (a, h, f, e, (b + 1)) else none) else i (a, h)) N (l, false, ([([105, 110, 103] : List UInt8), ([101, 100] : List UInt8), ([101, 115] : List UInt8), ([108, 121] : List UInt8), ([115] : List UInt8)] : List Z0), (([([105, 110, 103] : List UInt8), ([101, 100] : List UInt8), ([101, 115] : List UInt8), ([108, 121] : List UInt8), ([115] : List UInt8)] : List Z0).length : Int), (0 : Int)) else some l) N (k, true))
theorem jio (N : Nat) : mK 153 ⟨⟨[pS], []⟩, ⟨[pS], []⟩, c1A (jaB N)⟩ :=
 mO (fC (jcM N) (fC (jsu N) ja)) Tryz.func153 rfl N (.seq .no (.seq .no (.seq (.seq .no (.block (.loop jod (.seq .no (.block (.seq .no (.seq .no (.block (.loop jnf .no))))))))) .no))) _
def jkJ : Sh := ⟨.pv (.sl .str) :: pS :: dz 5 (pI :: pI :: dz 10 []), []⟩
def jdH (N : Nat) (e : List Z0) (i : List UInt8) : Z9 :=
 (iter (fun h (d, b, c, a) => bif decide (a < c) then oB (idx d a) fun j => (bif decide (b = j) then some a else if fits (a + 1) then h (d, b, c, (a + 1)) else none) else some (-1)) N (e, i, (e.length : Int), (0 : Int)))
theorem jkZ (N : Nat) : mK 201 ⟨⟨[.pv (.sl .str), pS], []⟩, ⟨[pI], []⟩, c2A (jdH N)⟩ :=
 mO ja Tryz.func201 rfl N (.seq .no (.seq (.seq .no (.block (.loop jkJ .no))) .no)) _
def jao (N : Nat) (b : List Z0) (c : List UInt8) : Z6 :=
 (oB (jdH N b c) fun a => some (decide ((0 : Int) ≤ a)))
theorem jh5 (N : Nat) : mK 154 ⟨⟨[.pv (.sl .str), pS], []⟩, ⟨[pB], []⟩, c2A (jao N)⟩ :=
 mO (fC (jkZ N) ja) Tryz.func154 rfl N .no _
def jmj : Sh := ⟨.dead :: .box 1 0 :: dz 22 (.pv Y15 :: pI :: pI :: dz 46 []), [(1, false, [.pv (.sl .str), .pv Y15])]⟩
def jrC : Sh := ⟨.dead :: .box 1 0 :: dz 22 (.pv Y15 :: pI :: pI :: dz 12 (pB :: dz 7 (pB :: .dead :: .dead :: .pv (.sl .str) :: pI :: pI :: dz 20 []))), [(1, false, [.pv (.sl .str), .pv Y15])]⟩
def jaj (N : Nat) (f : List Z0) (c : List Z4) : Z6 :=
 (bif decide ((6 : Int) < (f.length : Int)) then some false else oB (jb2 N f) fun E => bif !E then some false else bif decide ((4 : Int) < (c.length : Int)) then some false else iter (fun z (l, o, e, w, x) => bif decide (e < o) then oB (idx l e) fun a => (oB (jm N (a.1.length : Int) 1 3) fun v => bif !v then some false else oB (jO N a.2) fun t => bif !t then some false else oB (jaB N a.2) fun q => bif !decide (q = a.2) then some false else iter (fun B (n, m, j, u, y, p, r, d, i, k) => bif decide (d < r) then oB (idx p d) fun b => (oB (jO N b) fun D => bif !D then some false else oB (jaB N b) fun A => bif !decide (A = b) then some false else oB (jao N i b) fun C => bif C then some false else if fits (d + 1) then B (n, m, j, u, y, p, r, (d + 1), i, k) else none) else if fits (j + 1) then z (n, m, (j + 1), i, k) else none) N (l, o, e, (!t), (!decide (q = a.2)), a.1, (a.1.length : Int), (0 : Int), w, x)) else some true) N (c, (c.length : Int), (0 : Int), f, c))
theorem jdX (N : Nat) : mK 100 ⟨⟨[.agg [.pv (.sl .str), .pv Y15]], []⟩, ⟨[pB], []⟩, c2A (jaj N)⟩ :=
 mO (fC (jtw N) (fC (jY N) (fC (jcM N) (fC (jio N) (fC (jh5 N) ja))))) Tryz.func100 rfl N (.seq .no (.seq .no (.seq (.seq .no (.block (.loop jmj (.seq .no (.seq .no (.seq (.block (.seq .no (.seq .no (.seq .no (.block (.loop jrC .no)))))) .no)))))) .no))) _
def jtd : Sh := ⟨pS :: dz 4 (pI :: pI :: dz 16 []), []⟩
def jaF (N : Nat) (c : List UInt8) : Z6 :=
 (iter (fun f (b, d, a) => bif decide (a < d) then oB (idx b a) fun i => (bif decide ((i.toNat : Int) < 32) then some false else oB (idx b a) fun h => bif decide ((126 : Int) < (h.toNat : Int)) then some false else if fits (a + 1) then f (b, d, (a + 1)) else none) else some (decide ((b.length : Int) ≤ 160))) N (c, (c.length : Int), (0 : Int)))
theorem jdK (N : Nat) : mK 202 ⟨⟨[pS], []⟩, ⟨[pB], []⟩, c1A (jaF N)⟩ :=
 mO ja Tryz.func202 rfl N (.seq .no (.seq (.seq .no (.block (.loop jtd .no))) .no)) _
def jlC : Sh := ⟨.dead :: .box 1 0 :: dz 22 (.pv Y18 :: pI :: pI :: dz 66 []), [(1, false, [pI, .pv Y18, .pv Y14])]⟩
def jpt : Sh := ⟨.dead :: .box 1 0 :: dz 57 (.pv Y14 :: pI :: pI :: dz 31 []), [(1, false, [pI, .pv Y18, .pv Y14])]⟩
def jbx (N : Nat) (v : Int) (d : Z14) (p : Z7) : Z6 :=
 (oB (jm N v 1 9999) fun C => bif !C then some false else bif decide ((3 : Int) < (d.length : Int)) then some false else bif decide ((3 : Int) < (p.length : Int)) then some false else iter (fun t (i, j, a, m, e, c) => bif decide (a < j) then oB (idx i a) fun o => (oB (jO N o.1) fun x => bif !x then some false else oB (jaF N o.2) fun A => bif !A then some false else bif decide ((0 : Int) < a) then if fits (a - 1) then oB (idx e (a - 1)) fun w => (bif !Op.bytesLess w.1 o.1 then some false else if fits (a + 1) then t (i, j, (a + 1), m, e, c) else none) else none else if fits (a + 1) then t (i, j, (a + 1), m, e, c) else none) else iter (fun u (h, k, b, q, r, n) => bif decide (b < k) then oB (idx h b) fun f => (oB (jO N f.1) fun z => bif !z then some false else oB (jm N f.2 0 999999999) fun B => bif !B then some false else bif decide ((0 : Int) < b) then if fits (b - 1) then oB (idx n (b - 1)) fun y => (bif !Op.bytesLess y.1 f.1 then some false else if fits (b + 1) then u (h, k, (b + 1), q, r, n) else none) else none else if fits (b + 1) then u (h, k, (b + 1), q, r, n) else none) else some true) N (c, (c.length : Int), (0 : Int), m, e, c)) N (d, (d.length : Int), (0 : Int), v, d, p))
theorem jh0 (N : Nat) : mK 155 ⟨⟨[.agg [pI, .pv Y18, .pv Y14]], []⟩, ⟨[pB], []⟩, c3A (jbx N)⟩ :=
 mO (fC (jY N) (fC (jcM N) (fC (jdK N) ja))) Tryz.func155 rfl N (.seq .no (.seq .no (.seq (.seq .no (.block (.loop jlC .no))) (.seq (.seq .no (.block (.loop jpt .no))) .no)))) _
def jpj : Sh := ⟨.pv Y2 :: dz 4 (.pv Y2 :: pI :: pI :: dz 26 []), []⟩
def jbf (N : Nat) (e : List Z2) : Z6 :=
 (iter (fun h (b, f, d, a) => bif decide (a < d) then oB (idx f a) fun c => (oB (jbx N c.1 c.2.1 c.2.2) fun k => bif !k then some false else bif decide ((0 : Int) < a) then if fits (a - 1) then oB (idx b (a - 1)) fun i => (bif decide (c.1 ≤ i.1) then some false else if fits (a + 1) then h (b, f, d, (a + 1)) else none) else none else if fits (a + 1) then h (b, f, d, (a + 1)) else none) else some (decide ((b.length : Int) ≤ 16))) N (e, e, (e.length : Int), (0 : Int)))
theorem jjU (N : Nat) : mK 101 ⟨⟨[.pv Y2], []⟩, ⟨[pB], []⟩, c1A (jbf N)⟩ :=
 mO (fC (jh0 N) ja) Tryz.func101 rfl N (.seq .no (.seq (.seq .no (.block (.loop jpj .no))) .no)) _
def jbO (N : Nat) (c : Int) (a : Z14) (b : Z7) : Option Z2 :=
 (if room ([] : Z14).length a.length 32 then if room ([] : Z7).length b.length 24 then some (c, (([] : Z14) ++ a), (([] : Z7) ++ b)) else none else none)
theorem jrI (N : Nat) : mK 203 ⟨⟨[.agg [pI, .pv Y18, .pv Y14]], []⟩, ⟨[.agg [pI, .own 1 Y19 199 true, .own 2 Y16 192 true]], []⟩, c3A (jbO N)⟩ :=
 mO ja Tryz.func203 rfl N .no _
def joW : Sh := ⟨dz 3 (.own 600003 Y3 88 true :: dz 3 (.pv Y2 :: pI :: pI :: dz 10 [])), []⟩
def jbV (N : Nat) (h : List Z2) : Option ((List Z2)) :=
 (iter (fun j (b, d, e, a) => bif decide (a < e) then oB (idx d a) fun c => (oB (jbO N c.1 c.2.1 c.2.2) fun f => if room b.length ([f] : List Z2).length 56 then if fits (a + 1) then j ((b ++ ([f] : List Z2)), d, e, (a + 1)) else none else none) else some b) N (([] : List Z2), h, (h.length : Int), (0 : Int)))
theorem joC (N : Nat) : mK 156 ⟨⟨[.pv Y2], []⟩, ⟨[.own 1 Y3 88 true], []⟩, c1A (jbV N)⟩ :=
 mO (fC (jrI N) ja) Tryz.func156 rfl N (.seq .no (.seq .no (.seq (.seq .no (.block (.loop joW .no))) .no))) _
def jI (N : Nat) (a : Int) : Z9 :=
 (bif decide ((65 : Int) ≤ a) then bif decide (a ≤ 90) then some (IntKind.u8.wrap ((IntKind.u8.wrap (a + 97)) - 65)) else (some a) else some a)
theorem jmu (N : Nat) : mK 239 ⟨⟨[.pv (.int .u8)], []⟩, ⟨[.pv (.int .u8)], []⟩, c1A (jI N)⟩ :=
 mO ja Tryz.func239 rfl N .no _
def jpB : Sh := ⟨pS :: .dead :: .dead :: .own 600003 Y6 246 true :: pI :: dz 57 [], []⟩
def jo6 : Sh := ⟨pS :: .dead :: .dead :: .own 600003 Y6 246 true :: pI :: .box 5 0 :: .own 600006 (.int .u8) 5 true :: dz 55 [], [(5, false, [pS, pI, pI, pI])]⟩
def jct (N : Nat) (q : List UInt8) : Option ((List Z8)) :=
 (oB (jaF N q) fun z => bif !z then some ([] : List Z8) else iter (fun l (i, j, f) => bif decide (f < (i.length : Int)) then oB (idx i f) fun v => (oB (jI N (v.toNat : Int)) fun t => oB (jaw N t) fun x => bif !x then if fits (f + 1) then l (i, j, (f + 1)) else none else iter (fun n (c, d, a, b, o, h, e, p) => bif decide (a < (c.length : Int)) then oB (idx c a) fun r => (oB (jI N (r.toNat : Int)) fun w => oB (jaw N w) fun y => bif y then bif decide ((b.length : Int) < 12) then oB (idx c a) fun u => (oB (jI N (u.toNat : Int)) fun m => if room b.length ([m] : List Int).length 1 then if fits (a + 1) then n (c, d, (a + 1), (b ++ ([m] : List Int)), o, h, e, p) else none else none) else (if fits (a + 1) then n (c, d, (a + 1), b, o, h, e, p) else none) else if room d.length ([((bytesOf b), h, e, a)] : List Z8).length 40 then l (c, (d ++ ([((bytesOf b), h, e, a)] : List Z8)), a) else none) else if room d.length ([((bytesOf b), h, e, a)] : List Z8).length 40 then l (c, (d ++ ([((bytesOf b), h, e, a)] : List Z8)), a) else none) N (i, j, f, ([] : List Int), ([] : List UInt8), (j.length : Int), f, (0 : Int))) else some j) N (q, ([] : List Z8), (0 : Int)))
theorem jqc (N : Nat) : mK 204 ⟨⟨[pS], []⟩, ⟨[.own 1 Y6 246 true], []⟩, c1A (jct N)⟩ :=
 mO (fC (jdK N) (fC (jmu N) (fC (jeK N) ja))) Tryz.func204 rfl N (.seq .no (.seq .no (.seq .no (.seq (.seq .no (.block (.loop jpB (.seq .no (.block (.seq .no (.seq .no (.seq .no (.seq (.block (.loop jo6 .no)) .no))))))))) .no)))) _
def jty : Sh := ⟨.dead :: .pv Y14 :: pI :: .box 3 0 :: dz 3 (.pv (.opt Y17) :: dz 8 (pI :: pI :: dz 73 [])), [(3, false, [.pv (.sl .str), .pv Y15])]⟩
def jss : Sh := ⟨.dead :: .pv Y14 :: pI :: .box 3 0 :: dz 3 (.pv (.opt Y17) :: .dead :: .ptr Y17 :: pB :: dz 5 (pI :: pI :: dz 31 (pB :: dz 4 (.pv (.sl .str) :: pI :: pI :: dz 34 [])))), [(3, false, [.pv (.sl .str), .pv Y15])]⟩
def jbH (N : Nat) (c : List Z0) (c2 : List Z4) (terms : Z7) (at0 : Int) : Option ((Option Z4)) :=
 (iter (fun go (terms2, at02, best, t16, t17, c3, c4) => bif decide (t17 < t16) then oB (idx c4 t17) fun e => (if fits ((terms2.length : Int) - at02) then bif decide (((terms2.length : Int) - at02) < (e.1.length : Int)) then if fits (t17 + 1) then go (terms2, at02, best, t16, (t17 + 1), c3, c4) else none else (bif !(Option.isNone best) then oB best fun p => (bif decide ((e.1.length : Int) ≤ (p.1.length : Int)) then if fits (t17 + 1) then go (terms2, at02, best, t16, (t17 + 1), c3, c4) else none else iter (fun go2 (terms3, at03, best2, r, fits0, t162, t172, t49, t54, t55, t56, c5, c6) => bif decide (t56 < t55) then oB (idx t54 t56) fun e2 => (if fits (at03 + t56) then oB (idx terms3 (at03 + t56)) fun e3 => (bif fits0 then bif decide (e3.1 = e2) then oB (idx terms3 at03) fun e4 => (if fits (e4.2 + t56) then if fits (t56 + 1) then go2 (terms3, at03, best2, r, (decide (e3.2 = (e4.2 + t56))), t162, t172, t49, t54, t55, (t56 + 1), c5, c6) else none else none) else (if fits (t56 + 1) then go2 (terms3, at03, best2, r, false, t162, t172, t49, t54, t55, (t56 + 1), c5, c6) else none) else if fits (t56 + 1) then go2 (terms3, at03, best2, r, false, t162, t172, t49, t54, t55, (t56 + 1), c5, c6) else none) else none) else bif fits0 then if fits (t172 + 1) then go (terms3, at03, (some r), t162, (t172 + 1), c5, c6) else none else if fits (t172 + 1) then go (terms3, at03, best2, t162, (t172 + 1), c5, c6) else none) N (terms2, at02, best, e, true, t16, t17, (decide ((e.1.length : Int) ≤ (p.1.length : Int))), e.1, (e.1.length : Int), (0 : Int), c3, c4)) else iter (fun go3 (terms4, at04, best3, r2, fits02, t163, t173, t492, t542, t552, t562, c7, c8) => bif decide (t562 < t552) then oB (idx t542 t562) fun e5 => (if fits (at04 + t562) then oB (idx terms4 (at04 + t562)) fun e6 => (bif fits02 then bif decide (e6.1 = e5) then oB (idx terms4 at04) fun e7 => (if fits (e7.2 + t562) then if fits (t562 + 1) then go3 (terms4, at04, best3, r2, (decide (e6.2 = (e7.2 + t562))), t163, t173, t492, t542, t552, (t562 + 1), c7, c8) else none else none) else (if fits (t562 + 1) then go3 (terms4, at04, best3, r2, false, t163, t173, t492, t542, t552, (t562 + 1), c7, c8) else none) else if fits (t562 + 1) then go3 (terms4, at04, best3, r2, false, t163, t173, t492, t542, t552, (t562 + 1), c7, c8) else none) else none) else bif fits02 then if fits (t173 + 1) then go (terms4, at04, (some r2), t163, (t173 + 1), c7, c8) else none else if fits (t173 + 1) then go (terms4, at04, best3, t163, (t173 + 1), c7, c8) else none) N (terms2, at02, best, e, true, t16, t17, false, e.1, (e.1.length : Int), (0 : Int), c3, c4)) else none) else some best) N (terms, at0, (none : Option Z4), (c2.length : Int), (0 : Int), c, c2))
theorem jtv (N : Nat) : mK 205 ⟨⟨[.agg [.pv (.sl .str), .pv Y15], .pv Y14, pI], []⟩, ⟨[.pv (.opt Y17)], []⟩, c4A (jbH N)⟩ :=
 mO ja Tryz.func205 rfl N (.seq .no (.seq .no (.seq (.seq .no (.block (.loop jty (.seq .no (.seq .no (.seq (.block (.seq .no (.seq .no (.seq .no (.seq .no (.seq (.seq .no (.block (.loop jss .no))) .no)))))) .no)))))) .no))) _
def jlW : Sh := ⟨.dead :: .dead :: .box 2 0 :: .dead :: .dead :: .own 600005 Y16 186 true :: .own 600006 Y16 186 true :: dz 17 (.own 600024 Y6 246 true :: pI :: pI :: dz 67 []), [(2, false, [.pv (.sl .str), .pv Y15])]⟩
def jnt : Sh := ⟨.dead :: .dead :: .box 2 0 :: .dead :: .dead :: .own 600005 Y16 186 true :: .own 600006 Y16 186 true :: dz 3 (pI :: dz 83 []), [(2, false, [.pv (.sl .str), .pv Y15])]⟩
def jbw (N : Nat) (x : List Z0) (w : List Z4) (B : List UInt8) : Option (Z5) :=
 (oB (jaj N x w) fun G => bif !G then some ([] : Z7) else oB (jaF N B) fun C => bif !C then some ([] : Z7) else oB (jct N B) fun z => iter (fun o (k, e, h, i, a, c, j) => bif decide (a < i) then oB (idx h a) fun l => (oB (jaB N l.1) fun n => oB (jao N c l.1) fun E => bif !E then oB (jao N c n) fun D => (bif !D then if room e.length ([(n, l.2.1)] : Z7).length 24 then if fits (a + 1) then o (k, (e ++ ([(n, l.2.1)] : Z7)), h, i, (a + 1), c, j) else none else none else if fits (a + 1) then o (k, e, h, i, (a + 1), c, j) else none) else if fits (a + 1) then o (k, e, h, i, (a + 1), c, j) else none) else iter (fun y (f, d, b, r, m) => bif decide (b < (d.length : Int)) then oB (jbH N r m d b) fun p => (bif Option.isNone p then oB (idx d b) fun u => (if room f.length ([u] : Z7).length 24 then if fits (b + 1) then y ((f ++ ([u] : Z7)), d, (b + 1), r, m) else none else none) else oB p fun t => oB (idx d b) fun v => if room f.length ([(t.2, v.2)] : Z7).length 24 then oB p fun A => (if fits (b + (A.1.length : Int)) then y ((f ++ ([(t.2, v.2)] : Z7)), d, (b + (A.1.length : Int)), r, m) else none) else none) else some f) N (k, e, (0 : Int), c, j)) N (([] : Z7), ([] : Z7), z, (z.length : Int), (0 : Int), x, w))
theorem jgO (N : Nat) : mK 157 ⟨⟨[.agg [.pv (.sl .str), .pv Y15], pS], []⟩, ⟨[.own 1 Y16 186 true], []⟩, c3A (jbw N)⟩ :=
 mO (fC (jdX N) (fC (jdK N) (fC (jqc N) (fC (jio N) (fC (jh5 N) (fC (jtv N) ja)))))) Tryz.func157 rfl N (.seq .no (.seq .no (.seq .no (.seq .no (.seq (.seq .no (.block (.loop jlW .no))) (.seq (.seq .no (.block (.loop jnt .no))) .no)))))) _
def k__loop_example_fossick_impl_Seg_put_1_m (N : Nat) (d : List UInt8) (a : List UInt8) (e : Z3) (b : List UInt8) (c : Z0 × Int) : Z6 :=
 (bif decide (d = b) then some (decide (a = c.1)) else some false)
theorem jmw (N : Nat) : mK 207 ⟨⟨[.agg [pS, pS, .pv Y11], .ptr .str, .ptr Y16], []⟩, ⟨[pB], []⟩, c5A (k__loop_example_fossick_impl_Seg_put_1_m N)⟩ :=
 mO ja Tryz.func207 rfl N .no _
def jnc : Sh := ⟨.pv Y4 :: .clo 207 [.ptr .str, .ptr Y16] :: dz 5 (pI :: pI :: dz 10 []), []⟩
def k_slices_IndexFunc_146_m (N : Nat) (e : List Z1) (j : Z0 × Z0 × Int) : Z9 :=
 (iter (fun i (f, b, d, a) => bif decide (a < d) then oB (idx f a) fun c => (oB (k__loop_example_fossick_impl_Seg_put_1_m N c.1 c.2.1 c.2.2 b.1 b.2) fun k => bif k then some a else if fits (a + 1) then i (f, b, d, (a + 1)) else none) else some (-1)) N (e, j, (e.length : Int), (0 : Int)))
theorem jrl (N : Nat) : mK 206 ⟨⟨[.pv Y4, .clo 207 [.ptr .str, .ptr Y16]], []⟩, ⟨[pI], []⟩, c2A (k_slices_IndexFunc_146_m N)⟩ :=
 mO (fC (jmw N) ja) Tryz.func206 rfl N (.seq .no (.seq (.seq .no (.block (.loop jnc .no))) .no)) _
def i_Seg_put_m (N : Nat) (h : List UInt8) (f : List UInt8) (i : Int) (e : Int) (r : List Z2) (a : List Z1) : Option ((List Z2) × (List Z1)) :=
 (oB (k_slices_IndexFunc_146_m N a (h, f, i)) fun d => bif decide (d < 0) then if room a.length ([(h, f, ([] : Z3))] : List Z1).length 56 then if 0 ≤ (a.length : Int) ∧ (a.length : Int) < ((a ++ ([(h, f, ([] : Z3))] : List Z1)).length : Int) then oB ((a ++ ([(h, f, ([] : Z3))] : List Z1))[(a.length : Int).toNat]?) fun c => (if fits ((c.2.2.length : Int) - 1) then bif decide (((c.2.2.length : Int) - 1) < 0) then oB ((a ++ ([(h, f, ([] : Z3))] : List Z1))[(a.length : Int).toNat]?) fun R => (if (a.length : Int).toNat = (a.length : Int).toNat then if room c.2.2.length ([(e, ([] : List Int))] : Z3).length 32 then if (a.length : Int).toNat = (a.length : Int).toNat then oB ((a ++ ([(h, f, ([] : Z3))] : List Z1))[(a.length : Int).toNat]?) fun l => (if fits (((c.2.2.length : Int) - 1) + 1) then oB (((a ++ ([(h, f, ([] : Z3))] : List Z1)).set (a.length : Int).toNat (l.1, l.2.1, (c.2.2 ++ ([(e, ([] : List Int))] : Z3))))[(a.length : Int).toNat]?) fun q => (oB (q.2.2[(((c.2.2.length : Int) - 1) + 1).toNat]?) fun C => oB (((a ++ ([(h, f, ([] : Z3))] : List Z1)).set (a.length : Int).toNat (l.1, l.2.1, (c.2.2 ++ ([(e, ([] : List Int))] : Z3))))[(a.length : Int).toNat]?) fun ai => if (a.length : Int).toNat = (a.length : Int).toNat then oB (((a ++ ([(h, f, ([] : Z3))] : List Z1)).set (a.length : Int).toNat (l.1, l.2.1, (c.2.2 ++ ([(e, ([] : List Int))] : Z3))))[(a.length : Int).toNat]?) fun ab => (if (a.length : Int).toNat = (a.length : Int).toNat then if 0 ≤ (((c.2.2.length : Int) - 1) + 1) ∧ (((c.2.2.length : Int) - 1) + 1) < (q.2.2.length : Int) then oB (q.2.2[(((c.2.2.length : Int) - 1) + 1).toNat]?) fun ag => (if (((c.2.2.length : Int) - 1) + 1).toNat = (((c.2.2.length : Int) - 1) + 1).toNat then if room C.2.length ([i] : List Int).length 8 then if 0 ≤ (((c.2.2.length : Int) - 1) + 1) ∧ (((c.2.2.length : Int) - 1) + 1) < (q.2.2.length : Int) then if (((c.2.2.length : Int) - 1) + 1).toNat = (((c.2.2.length : Int) - 1) + 1).toNat then oB (q.2.2[(((c.2.2.length : Int) - 1) + 1).toNat]?) fun O => (some (r, (((a ++ ([(h, f, ([] : Z3))] : List Z1)).set (a.length : Int).toNat (l.1, l.2.1, (c.2.2 ++ ([(e, ([] : List Int))] : Z3)))).modify ((a.length : Int).toNat) fun E => (E.1, E.2.1, (q.2.2.set (((c.2.2.length : Int) - 1) + 1).toNat (O.1, (C.2 ++ ([i] : List Int)))))))) else none else none else none else none) else none else none) else none) else none) else none else none else none) else (oB ((a ++ ([(h, f, ([] : Z3))] : List Z1))[(a.length : Int).toNat]?) fun aq => if (a.length : Int).toNat = (a.length : Int).toNat then if 0 ≤ ((c.2.2.length : Int) - 1) ∧ ((c.2.2.length : Int) - 1) < (c.2.2.length : Int) then oB (c.2.2[((c.2.2.length : Int) - 1).toNat]?) fun I => (bif !decide (I.1 = e) then oB ((a ++ ([(h, f, ([] : Z3))] : List Z1))[(a.length : Int).toNat]?) fun T => (if (a.length : Int).toNat = (a.length : Int).toNat then if room c.2.2.length ([(e, ([] : List Int))] : Z3).length 32 then if (a.length : Int).toNat = (a.length : Int).toNat then oB ((a ++ ([(h, f, ([] : Z3))] : List Z1))[(a.length : Int).toNat]?) fun k => (if fits (((c.2.2.length : Int) - 1) + 1) then oB (((a ++ ([(h, f, ([] : Z3))] : List Z1)).set (a.length : Int).toNat (k.1, k.2.1, (c.2.2 ++ ([(e, ([] : List Int))] : Z3))))[(a.length : Int).toNat]?) fun n => (oB (n.2.2[(((c.2.2.length : Int) - 1) + 1).toNat]?) fun w => oB (((a ++ ([(h, f, ([] : Z3))] : List Z1)).set (a.length : Int).toNat (k.1, k.2.1, (c.2.2 ++ ([(e, ([] : List Int))] : Z3))))[(a.length : Int).toNat]?) fun S => if (a.length : Int).toNat = (a.length : Int).toNat then oB (((a ++ ([(h, f, ([] : Z3))] : List Z1)).set (a.length : Int).toNat (k.1, k.2.1, (c.2.2 ++ ([(e, ([] : List Int))] : Z3))))[(a.length : Int).toNat]?) fun aa => (if (a.length : Int).toNat = (a.length : Int).toNat then if 0 ≤ (((c.2.2.length : Int) - 1) + 1) ∧ (((c.2.2.length : Int) - 1) + 1) < (n.2.2.length : Int) then oB (n.2.2[(((c.2.2.length : Int) - 1) + 1).toNat]?) fun am => (if (((c.2.2.length : Int) - 1) + 1).toNat = (((c.2.2.length : Int) - 1) + 1).toNat then if room w.2.length ([i] : List Int).length 8 then if 0 ≤ (((c.2.2.length : Int) - 1) + 1) ∧ (((c.2.2.length : Int) - 1) + 1) < (n.2.2.length : Int) then if (((c.2.2.length : Int) - 1) + 1).toNat = (((c.2.2.length : Int) - 1) + 1).toNat then oB (n.2.2[(((c.2.2.length : Int) - 1) + 1).toNat]?) fun G => (some (r, (((a ++ ([(h, f, ([] : Z3))] : List Z1)).set (a.length : Int).toNat (k.1, k.2.1, (c.2.2 ++ ([(e, ([] : List Int))] : Z3)))).modify ((a.length : Int).toNat) fun x => (x.1, x.2.1, (n.2.2.set (((c.2.2.length : Int) - 1) + 1).toNat (G.1, (w.2 ++ ([i] : List Int)))))))) else none else none else none else none) else none else none) else none) else none) else none else none else none) else if (a.length : Int).toNat = (a.length : Int).toNat then oB (c.2.2[((c.2.2.length : Int) - 1).toNat]?) fun z => (oB ((a ++ ([(h, f, ([] : Z3))] : List Z1))[(a.length : Int).toNat]?) fun ac => if (a.length : Int).toNat = (a.length : Int).toNat then oB ((a ++ ([(h, f, ([] : Z3))] : List Z1))[(a.length : Int).toNat]?) fun ak => (if (a.length : Int).toNat = (a.length : Int).toNat then if 0 ≤ ((c.2.2.length : Int) - 1) ∧ ((c.2.2.length : Int) - 1) < (c.2.2.length : Int) then oB (c.2.2[((c.2.2.length : Int) - 1).toNat]?) fun U => (if ((c.2.2.length : Int) - 1).toNat = ((c.2.2.length : Int) - 1).toNat then if room z.2.length ([i] : List Int).length 8 then if 0 ≤ ((c.2.2.length : Int) - 1) ∧ ((c.2.2.length : Int) - 1) < (c.2.2.length : Int) then if ((c.2.2.length : Int) - 1).toNat = ((c.2.2.length : Int) - 1).toNat then oB (c.2.2[((c.2.2.length : Int) - 1).toNat]?) fun K => (some (r, ((a ++ ([(h, f, ([] : Z3))] : List Z1)).modify ((a.length : Int).toNat) fun v => (v.1, v.2.1, (c.2.2.set ((c.2.2.length : Int) - 1).toNat (K.1, (z.2 ++ ([i] : List Int)))))))) else none else none else none else none) else none else none) else none) else none) else none else none) else none) else none else none else if 0 ≤ d ∧ d < (a.length : Int) then oB (a[d.toNat]?) fun b => (if fits ((b.2.2.length : Int) - 1) then bif decide (((b.2.2.length : Int) - 1) < 0) then oB (a[d.toNat]?) fun ad => (if d.toNat = d.toNat then if room b.2.2.length ([(e, ([] : List Int))] : Z3).length 32 then if d.toNat = d.toNat then oB (a[d.toNat]?) fun m => (if fits (((b.2.2.length : Int) - 1) + 1) then oB ((a.set d.toNat (m.1, m.2.1, (b.2.2 ++ ([(e, ([] : List Int))] : Z3))))[d.toNat]?) fun o => (oB (o.2.2[(((b.2.2.length : Int) - 1) + 1).toNat]?) fun B => oB ((a.set d.toNat (m.1, m.2.1, (b.2.2 ++ ([(e, ([] : List Int))] : Z3))))[d.toNat]?) fun ao => if d.toNat = d.toNat then oB ((a.set d.toNat (m.1, m.2.1, (b.2.2 ++ ([(e, ([] : List Int))] : Z3))))[d.toNat]?) fun X => (if d.toNat = d.toNat then if 0 ≤ (((b.2.2.length : Int) - 1) + 1) ∧ (((b.2.2.length : Int) - 1) + 1) < (o.2.2.length : Int) then oB (o.2.2[(((b.2.2.length : Int) - 1) + 1).toNat]?) fun V => (if (((b.2.2.length : Int) - 1) + 1).toNat = (((b.2.2.length : Int) - 1) + 1).toNat then if room B.2.length ([i] : List Int).length 8 then if 0 ≤ (((b.2.2.length : Int) - 1) + 1) ∧ (((b.2.2.length : Int) - 1) + 1) < (o.2.2.length : Int) then if (((b.2.2.length : Int) - 1) + 1).toNat = (((b.2.2.length : Int) - 1) + 1).toNat then oB (o.2.2[(((b.2.2.length : Int) - 1) + 1).toNat]?) fun H => (some (r, ((a.set d.toNat (m.1, m.2.1, (b.2.2 ++ ([(e, ([] : List Int))] : Z3)))).modify d.toNat fun u => (u.1, u.2.1, (o.2.2.set (((b.2.2.length : Int) - 1) + 1).toNat (H.1, (B.2 ++ ([i] : List Int)))))))) else none else none else none else none) else none else none) else none) else none) else none else none else none) else (oB (a[d.toNat]?) fun ah => if d.toNat = d.toNat then if 0 ≤ ((b.2.2.length : Int) - 1) ∧ ((b.2.2.length : Int) - 1) < (b.2.2.length : Int) then oB (b.2.2[((b.2.2.length : Int) - 1).toNat]?) fun Q => (bif !decide (Q.1 = e) then oB (a[d.toNat]?) fun ae => (if d.toNat = d.toNat then if room b.2.2.length ([(e, ([] : List Int))] : Z3).length 32 then if d.toNat = d.toNat then oB (a[d.toNat]?) fun j => (if fits (((b.2.2.length : Int) - 1) + 1) then oB ((a.set d.toNat (j.1, j.2.1, (b.2.2 ++ ([(e, ([] : List Int))] : Z3))))[d.toNat]?) fun p => (oB (p.2.2[(((b.2.2.length : Int) - 1) + 1).toNat]?) fun t => oB ((a.set d.toNat (j.1, j.2.1, (b.2.2 ++ ([(e, ([] : List Int))] : Z3))))[d.toNat]?) fun al => if d.toNat = d.toNat then oB ((a.set d.toNat (j.1, j.2.1, (b.2.2 ++ ([(e, ([] : List Int))] : Z3))))[d.toNat]?) fun an => (if d.toNat = d.toNat then if 0 ≤ (((b.2.2.length : Int) - 1) + 1) ∧ (((b.2.2.length : Int) - 1) + 1) < (p.2.2.length : Int) then oB (p.2.2[(((b.2.2.length : Int) - 1) + 1).toNat]?) fun ap => (if (((b.2.2.length : Int) - 1) + 1).toNat = (((b.2.2.length : Int) - 1) + 1).toNat then if room t.2.length ([i] : List Int).length 8 then if 0 ≤ (((b.2.2.length : Int) - 1) + 1) ∧ (((b.2.2.length : Int) - 1) + 1) < (p.2.2.length : Int) then if (((b.2.2.length : Int) - 1) + 1).toNat = (((b.2.2.length : Int) - 1) + 1).toNat then oB (p.2.2[(((b.2.2.length : Int) - 1) + 1).toNat]?) fun P => (some (r, ((a.set d.toNat (j.1, j.2.1, (b.2.2 ++ ([(e, ([] : List Int))] : Z3)))).modify d.toNat fun y => (y.1, y.2.1, (p.2.2.set (((b.2.2.length : Int) - 1) + 1).toNat (P.1, (t.2 ++ ([i] : List Int)))))))) else none else none else none else none) else none else none) else none) else none) else none else none else none) else if d.toNat = d.toNat then oB (b.2.2[((b.2.2.length : Int) - 1).toNat]?) fun D => (oB (a[d.toNat]?) fun W => if d.toNat = d.toNat then oB (a[d.toNat]?) fun af => (if d.toNat = d.toNat then if 0 ≤ ((b.2.2.length : Int) - 1) ∧ ((b.2.2.length : Int) - 1) < (b.2.2.length : Int) then oB (b.2.2[((b.2.2.length : Int) - 1).toNat]?) fun aj => (if ((b.2.2.length : Int) - 1).toNat = ((b.2.2.length : Int) - 1).toNat then if room D.2.length ([i] : List Int).length 8 then if 0 ≤ ((b.2.2.length : Int) - 1) ∧ ((b.2.2.length : Int) - 1) < (b.2.2.length : Int) then if ((b.2.2.length : Int) - 1).toNat = ((b.2.2.length : Int) - 1).toNat then oB (b.2.2[((b.2.2.length : Int) - 1).toNat]?) fun L => (some (r, (a.modify d.toNat fun A => (A.1, A.2.1, (b.2.2.set ((b.2.2.length : Int) - 1).toNat (L.1, (D.2 ++ ([i] : List Int)))))))) else none else none else none else none) else none else none) else none) else none) else none else none) else none) else none)
theorem jky (N : Nat) : mK 158 ⟨⟨[.box 900000 0, pS, .agg [pS, pI], pI], [(900000, false, [.pv Y2, .tre 850001 Y5 136])]⟩, ⟨[.tup []], [(900000, false, [.pv Y2, .tre 1 Y5 136])]⟩, c6A (i_Seg_put_m N)⟩ :=
 mO (fC (jrl N) ja) Tryz.func158 rfl N (.seq .no (.seq .no (.seq .no (.seq .no (.seq .no (.seq .no (.touch [.out 9 [(2, 79, 175, 10), (1, 88, 3, 0)]]))))))) _ (wr := [33, 34, 70, 71, 91, 92]) (rs := [900000, 850001]) (dw := [16, 33, 70])
end Go.Proofs.YtobfngpkemkojaaGreatDoor
