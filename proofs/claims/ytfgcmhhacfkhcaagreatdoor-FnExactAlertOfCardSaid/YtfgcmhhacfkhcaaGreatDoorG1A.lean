import Derived.Test.YtfgcmhhacfkhcaaGreatDoorSJ
set_option linter.unusedVariables false
set_option linter.unusedSimpArgs false
namespace Go.Proofs.YtfgcmhhacfkhcaaGreatDoor
open Go.RowKit
open Option renaming bind → oB
set_option maxRecDepth 1000000
abbrev Z0 : Type := List UInt8
abbrev Z1 : Type := Z0 × Z0 × (List (Int × (List Int)))
abbrev Z2 : Type := Int × (List (Z0 × Z0)) × (List (Z0 × Int))
abbrev Z3 : Type := (List Z0) × Z0
abbrev Z4 : Type := List (Int × (List Int))
abbrev Z5 : Type := List (Z0 × Int)
abbrev Z6 : Type := List (Z0 × Int)
abbrev Z7 : Type := Option (Bool)
abbrev Z8 : Type := Z0 × Int × Int × Int
abbrev Z9 : Type := List (Z0 × Z0)
abbrev Z10 : Type := Option (Int)
abbrev Z11 : Type := List (Z0 × Z0)
abbrev Z12 : Type := ((List Z0) × (List Z3)) × (List Z2) × (List Z1)
abbrev Z13 : Type := Int × Z0 × (List Z0) × Int × Int × (List DQ)
abbrev Z14 : Type := Int × Z0 × (List Z0) × Int × Int × (List DQ) × Int × Z0 × (List Z0) × Int × Int × (List DQ)
abbrev Z15 : Type := List (List Int)
abbrev Z16 : Type := List (Z0 × DQ)
abbrev Z17 : Type := List (Int × (List Int))
abbrev Z18 : Type := Z0 × Z0 × (List Int) × Int × Int × Int
abbrev Z19 : Type := Int × Int × Z0 × (List Z0) × Int × Int × (List DQ) × Bool × Int × Int × Int × Int × Bool × Int × Int
abbrev Z21 : Type := Int × Z0 × (List Z0) × Int × Int × (List DQ) × Int
abbrev mK := ModelOk Tryz.prog
theorem mO {l : List (Nat × Model)} (hl : jR Tryz.prog l) {f : FuncId} {fn : Func} {c : Code} (hf : Tryz.prog.funcs[f]? = some fn) (hbody : fn.body = some c) (N : Nat) (h : Hint) (m : Model) (wr rs dw : List Nat := [])
  (hname : (fn.name == "runtime.NumGoroutine") = false := by kernel_rfl) (hres : m.arg.names.all (jbC l wr rs dw).res = true := by kernel_rfl) (hlen : Nat.ble m.arg.vals.length fn.ntmps = true := by kernel_rfl)
  (hrun : ∀ a, m.run a = runF N (jbC l wr rs dw) okDraw fn c h m.arg m.ret a := by intro a; kernel_rfl) : ModelOk Tryz.prog f m := modelOk_of (E := jbC l wr rs dw) (jtQ hl wr rs dw) hf hname hbody N h m hres hlen hrun
theorem fC {k : Nat} {m : Model} {l : List (Nat × Model)} (h : ModelOk Tryz.prog k m) (hl : jR Tryz.prog l) : jR Tryz.prog ((k, m) :: l) := jsH h hl
abbrev pI : VS := .pv (.int .i64)
abbrev pS : VS := .pv .str
abbrev pB : VS := .pv .bool
abbrev tI : Tp := .int .i64
abbrev c1A {α ρ : Type} (f : α → ρ) (a : α) : ρ := f a
abbrev c2A {α0 α1 ρ : Type} (f : α0 → α1 → ρ) (a : α0 × α1) : ρ := f a.1 a.2
abbrev c3A {α0 α1 α2 ρ : Type} (f : α0 → α1 → α2 → ρ) (a : α0 × α1 × α2) : ρ := f a.1 a.2.1 a.2.2
abbrev c4A {α0 α1 α2 α3 ρ : Type} (f : α0 → α1 → α2 → α3 → ρ) (a : α0 × α1 × α2 × α3) : ρ := f a.1 a.2.1 a.2.2.1 a.2.2.2
abbrev c5A {α0 α1 α2 α3 α4 ρ : Type} (f : α0 → α1 → α2 → α3 → α4 → ρ) (a : α0 × α1 × α2 × α3 × α4) : ρ := f a.1 a.2.1 a.2.2.1 a.2.2.2.1 a.2.2.2.2
abbrev c6A {α0 α1 α2 α3 α4 α5 ρ : Type} (f : α0 → α1 → α2 → α3 → α4 → α5 → ρ) (a : α0 × α1 × α2 × α3 × α4 × α5) : ρ := f a.1 a.2.1 a.2.2.1 a.2.2.2.1 a.2.2.2.2.1 a.2.2.2.2.2
abbrev c7A {α0 α1 α2 α3 α4 α5 α6 ρ : Type} (f : α0 → α1 → α2 → α3 → α4 → α5 → α6 → ρ) (a : α0 × α1 × α2 × α3 × α4 × α5 × α6) : ρ := f a.1 a.2.1 a.2.2.1 a.2.2.2.1 a.2.2.2.2.1 a.2.2.2.2.2.1 a.2.2.2.2.2.2
abbrev c8A {α0 α1 α2 α3 α4 α5 α6 α7 ρ : Type} (f : α0 → α1 → α2 → α3 → α4 → α5 → α6 → α7 → ρ) (a : α0 × α1 × α2 × α3 × α4 × α5 × α6 × α7) : ρ := f a.1 a.2.1 a.2.2.1 a.2.2.2.1 a.2.2.2.2.1 a.2.2.2.2.2.1 a.2.2.2.2.2.2.1 a.2.2.2.2.2.2.2
abbrev c9A {α0 α1 α2 α3 α4 α5 α6 α7 α8 ρ : Type} (f : α0 → α1 → α2 → α3 → α4 → α5 → α6 → α7 → α8 → ρ) (a : α0 × α1 × α2 × α3 × α4 × α5 × α6 × α7 × α8) : ρ := f a.1 a.2.1 a.2.2.1 a.2.2.2.1 a.2.2.2.2.1 a.2.2.2.2.2.1 a.2.2.2.2.2.2.1 a.2.2.2.2.2.2.2.1 a.2.2.2.2.2.2.2.2
abbrev c10A {α0 α1 α2 α3 α4 α5 α6 α7 α8 α9 ρ : Type} (f : α0 → α1 → α2 → α3 → α4 → α5 → α6 → α7 → α8 → α9 → ρ) (a : α0 × α1 × α2 × α3 × α4 × α5 × α6 × α7 × α8 × α9) : ρ := f a.1 a.2.1 a.2.2.1 a.2.2.2.1 a.2.2.2.2.1 a.2.2.2.2.2.1 a.2.2.2.2.2.2.1 a.2.2.2.2.2.2.2.1 a.2.2.2.2.2.2.2.2.1 a.2.2.2.2.2.2.2.2.2
abbrev c11A {α0 α1 α2 α3 α4 α5 α6 α7 α8 α9 α10 ρ : Type} (f : α0 → α1 → α2 → α3 → α4 → α5 → α6 → α7 → α8 → α9 → α10 → ρ) (a : α0 × α1 × α2 × α3 × α4 × α5 × α6 × α7 × α8 × α9 × α10) : ρ := f a.1 a.2.1 a.2.2.1 a.2.2.2.1 a.2.2.2.2.1 a.2.2.2.2.2.1 a.2.2.2.2.2.2.1 a.2.2.2.2.2.2.2.1 a.2.2.2.2.2.2.2.2.1 a.2.2.2.2.2.2.2.2.2.1 a.2.2.2.2.2.2.2.2.2.2
abbrev c12A {α0 α1 α2 α3 α4 α5 α6 α7 α8 α9 α10 α11 ρ : Type} (f : α0 → α1 → α2 → α3 → α4 → α5 → α6 → α7 → α8 → α9 → α10 → α11 → ρ) (a : α0 × α1 × α2 × α3 × α4 × α5 × α6 × α7 × α8 × α9 × α10 × α11) : ρ := f a.1 a.2.1 a.2.2.1 a.2.2.2.1 a.2.2.2.2.1 a.2.2.2.2.2.1 a.2.2.2.2.2.2.1 a.2.2.2.2.2.2.2.1 a.2.2.2.2.2.2.2.2.1 a.2.2.2.2.2.2.2.2.2.1 a.2.2.2.2.2.2.2.2.2.2.1 a.2.2.2.2.2.2.2.2.2.2.2
abbrev c14A {α0 α1 α2 α3 α4 α5 α6 α7 α8 α9 α10 α11 α12 α13 ρ : Type} (f : α0 → α1 → α2 → α3 → α4 → α5 → α6 → α7 → α8 → α9 → α10 → α11 → α12 → α13 → ρ) (a : α0 × α1 × α2 × α3 × α4 × α5 × α6 × α7 × α8 × α9 × α10 × α11 × α12 × α13) : ρ := f a.1 a.2.1 a.2.2.1 a.2.2.2.1 a.2.2.2.2.1 a.2.2.2.2.2.1 a.2.2.2.2.2.2.1 a.2.2.2.2.2.2.2.1 a.2.2.2.2.2.2.2.2.1 a.2.2.2.2.2.2.2.2.2.1 a.2.2.2.2.2.2.2.2.2.2.1 a.2.2.2.2.2.2.2.2.2.2.2.1 a.2.2.2.2.2.2.2.2.2.2.2.2.1 a.2.2.2.2.2.2.2.2.2.2.2.2.2
def dz : Nat → List VS → List VS
 | 0, l => l
 | n + 1, l => .dead :: dz n l
abbrev Y19 : Tp := .sl tI
abbrev Y18 : Tp := .pair .str .str
abbrev Y17 : Tp := .sl (.pair .str .str)
abbrev Y16 : Tp := .pair (.sl .str) .str
abbrev Y15 : Tp := .pair .str tI
abbrev Y14 : Tp := .sl (.pair (.sl .str) .str)
abbrev Y13 : Tp := .sl (.pair .str tI)
abbrev Y12 : Tp := .pair tI (.sl tI)
abbrev Y11 : Tp := .sl (.pair tI (.sl tI))
abbrev Y6 : Tp := .pair .str (.pair tI (.pair tI tI))
abbrev Y5 : Tp := .pair .str (.pair .str (.sl (.pair tI (.sl tI))))
abbrev Y4 : Tp := .sl (.pair .str (.pair .str (.sl (.pair tI (.sl tI)))))
abbrev Y3 : Tp := .pair tI (.pair (.sl (.pair .str .str)) (.sl (.pair .str tI)))
abbrev Y2 : Tp := .sl (.pair tI (.pair (.sl (.pair .str .str)) (.sl (.pair .str tI))))
abbrev Y1 : Tp := .pair (.sl (.pair tI (.pair (.sl (.pair .str .str)) (.sl (.pair .str tI))))) (.sl (.pair .str (.pair .str (.sl (.pair tI (.sl tI))))))
abbrev Y0 : Tp := .pair (.pair (.sl .str) (.sl (.pair (.sl .str) .str))) (.pair (.sl (.pair tI (.pair (.sl (.pair .str .str)) (.sl (.pair .str tI))))) (.sl (.pair .str (.pair .str (.sl (.pair tI (.sl tI)))))))
def jzT : Sh := ⟨[.agg [pI, pS, .pv (.sl .str), pI, pI, .pv (.sl .q)], pI], []⟩
def jAp : Sh := ⟨[pI], []⟩
def jso : Sh := ⟨.pv (.sl .str) :: pI :: dz 3 (pI :: dz 22 []), []⟩
def jbK (N : Nat) (a : List Z0) (d : Int) : Z10 :=
 (if fits (d - (a.length : Int)) then bif decide ((d - (a.length : Int)) < 0) then some (-1) else (iter (fun i (e, b, c) => bif decide (c < (e.length : Int)) then oB (idx e c) fun f => (if fits (b - (f.length : Int)) then bif decide ((b - (f.length : Int)) < 0) then some (-1) else (if fits (c + 1) then i (e, (b - (f.length : Int)), (c + 1)) else none) else none) else some b) N (a, (d - (a.length : Int)), (0 : Int))) else none)
theorem jjn (N : Nat) : mK 61 ⟨⟨[.pv (.sl .str), pI], []⟩, ⟨[pI], []⟩, c2A (jbK N)⟩ :=
 mO ja Tryz.func61 rfl N (.seq .no (.seq .no (.seq .no (.seq (.seq .no (.block (.loop jso .no))) .no)))) _
def jDq : Sh := ⟨[.pv (.sl .q), pI], []⟩
def jCU : Sh := ⟨[pI], []⟩
def jBx : Sh := ⟨.pv (.sl .q) :: pI :: dz 3 (pI :: dz 21 []), []⟩
def jzK (N : Nat) (j : Z21 → Option Int) (b : List DQ) (d : Int) : Z10 :=
 (if fits (d - (b.length : Int)) then bif decide ((d - (b.length : Int)) < 0) then some (-1) else (iter (fun k (e, f, c) => bif decide (c < (e.length : Int)) then oB (idx e c) fun a => (oB (j (a.kind, a.field, a.words, a.lo, a.hi, a.kids, f)) fun h => bif decide (h < 0) then some (-1) else if fits (c + 1) then k (e, h, (c + 1)) else none) else some f) N (b, (d - (b.length : Int)), (0 : Int))) else none)
def jAt (N : Nat) (F : Z21 → Option Int) : Model := ⟨jDq, jCU, fun a => jzK N F a.1 a.2⟩
theorem jCA (N : Nat) (F : Z21 → Option Int) (hF : mK 48 ⟨jzT, jAp, F⟩) : mK 125 (jAt N F) :=
 mO (fC hF ja) Tryz.func125 rfl N (.seq .no (.seq .no (.seq .no (.seq (.seq .no (.block (.loop jBx .no))) .no)))) (jAt N F)
def jGR (N : Nat) : (D : Nat) → Int → Z0 → (List Z0) → Int → Int → (List DQ) → Int → Z10
 | 0, _, _, _, _, _, _, _ => none
 | D + 1, a, a2, a3, a4, a5, a6, left =>
 if fits (left - (a2.length : Int)) then bif decide ((left - (a2.length : Int)) < 0) then
 some (-1)
 else
 (oB (jbK N a3 (left - (a2.length : Int))) fun r =>
 bif decide (r < 0) then
 some (-1)
 else
 oB (jzK N (fun a => jGR N D a.1 a.2.1 a.2.2.1 a.2.2.2.1 a.2.2.2.2.1 a.2.2.2.2.2.1 a.2.2.2.2.2.2) a6 r) fun r2 =>
 bif decide (r2 < 0) then
 some (-1)
 else
 some r2) else none
def jya (N D : Nat) : Model := ⟨jzT, jAp, c7A (jGR N D)⟩
theorem jBb (N D : Nat) (ih : mK 48 (jya N D)) : mK 48 (jya N (D + 1)) :=
 mO (fC ih (fC (jjn N) (fC (jCA N _ ih) ja))) Tryz.func48 rfl N .no (jya N (D + 1))
theorem jzH (N : Nat) : ∀ D, mK 48 (jya N D)
 | 0 => modelOk_none ⟨_, Tryz.func48, by decide, by kernel_rfl⟩ _ (fun a => rfl)
 | D + 1 => jBb N D (jzH N D)
def l_szAlert_m (N : Nat) (b : List UInt8) (j : Int) (i : List UInt8) (d : List Z0) (e : Int) (h : Int) (f : List DQ) (a : Int) : Z10 :=
 (if fits (a - (b.length : Int)) then bif decide ((a - (b.length : Int)) < 0) then some (-1) else (oB (jGR N N j i d e h f (a - (b.length : Int))) fun c => bif decide (c < 0) then some (-1) else some c) else none)
theorem jHb (N : Nat) : mK 60 ⟨⟨[.agg [pS, pI, pS, .pv (.sl .str), pI, pI, .pv (.sl .q)], pI], []⟩, ⟨[pI], []⟩, c8A (l_szAlert_m N)⟩ :=
 mO (fC (jzH N N) ja) Tryz.func60 rfl N .no _
def jG4 : Sh := ⟨.pv (.sl (.pair .str .q)) :: pI :: dz 3 (pI :: dz 21 []), []⟩
def l_szAlertS_m (N : Nat) (b : List (Z0 × DQ)) (d : Int) : Z10 :=
 (if fits (d - (b.length : Int)) then bif decide ((d - (b.length : Int)) < 0) then some (-1) else (iter (fun j (e, f, c) => bif decide (c < (e.length : Int)) then oB (idx e c) fun a => (oB (l_szAlert_m N a.1 a.2.kind a.2.field a.2.words a.2.lo a.2.hi a.2.kids f) fun h => bif decide (h < 0) then some (-1) else if fits (c + 1) then j (e, h, (c + 1)) else none) else some f) N (b, (d - (b.length : Int)), (0 : Int))) else none)
theorem jG3 (N : Nat) : mK 8 ⟨⟨[.pv (.sl (.pair .str .q)), pI], []⟩, ⟨[pI], []⟩, c2A (l_szAlertS_m N)⟩ :=
 mO (fC (jHb N) ja) Tryz.func8 rfl N (.seq .no (.seq .no (.seq .no (.seq (.seq .no (.block (.loop jG4 .no))) .no)))) _
def jbp (N : Nat) (d : List Z0) (b : List UInt8) (c : Int) : Z10 :=
 (oB (jbK N d c) fun a => bif decide (a < 0) then some (-1) else if fits (a - (b.length : Int)) then bif decide ((a - (b.length : Int)) < 0) then some (-1) else (some (a - (b.length : Int))) else none)
theorem jsV (N : Nat) : mK 137 ⟨⟨[.agg [.pv (.sl .str), pS], pI], []⟩, ⟨[pI], []⟩, c3A (jbp N)⟩ :=
 mO (fC (jjn N) ja) Tryz.func137 rfl N .no _
def jki : Sh := ⟨.pv Y14 :: pI :: dz 3 (pI :: dz 21 []), []⟩
def jc6 (N : Nat) (a : List Z3) (c : Int) : Z10 :=
 (if fits (c - (a.length : Int)) then bif decide ((c - (a.length : Int)) < 0) then some (-1) else (iter (fun j (d, e, b) => bif decide (b < (d.length : Int)) then oB (idx d b) fun h => (oB (jbp N h.1 h.2 e) fun f => bif decide (f < 0) then some (-1) else if fits (b + 1) then j (d, f, (b + 1)) else none) else some e) N (a, (c - (a.length : Int)), (0 : Int))) else none)
theorem jkX (N : Nat) : mK 62 ⟨⟨[.pv Y14, pI], []⟩, ⟨[pI], []⟩, c2A (jc6 N)⟩ :=
 mO (fC (jsV N) ja) Tryz.func62 rfl N (.seq .no (.seq .no (.seq .no (.seq (.seq .no (.block (.loop jki .no))) .no)))) _
def jbD (N : Nat) (d : List Z0) (e : List Z3) (c : Int) : Z10 :=
 (oB (jbK N d c) fun b => bif decide (b < 0) then some (-1) else oB (jc6 N e b) fun a => bif decide (a < 0) then some (-1) else some a)
theorem jm8 (N : Nat) : mK 9 ⟨⟨[.agg [.pv (.sl .str), .pv Y14], pI], []⟩, ⟨[pI], []⟩, c3A (jbD N)⟩ :=
 mO (fC (jjn N) (fC (jkX N) ja)) Tryz.func9 rfl N .no _
def jaN (N : Nat) (b : List UInt8) (c : List UInt8) (a : Int) : Z10 :=
 (if fits (a - (b.length : Int)) then bif decide ((a - (b.length : Int)) < 0) then some (-1) else (if fits ((a - (b.length : Int)) - (c.length : Int)) then bif decide (((a - (b.length : Int)) - (c.length : Int)) < 0) then some (-1) else (some ((a - (b.length : Int)) - (c.length : Int))) else none) else none)
theorem jpy (N : Nat) : mK 138 ⟨⟨[.agg [pS, pS], pI], []⟩, ⟨[pI], []⟩, c3A (jaN N)⟩ :=
 mO ja Tryz.func138 rfl N .no _
def jms : Sh := ⟨.pv Y17 :: pI :: dz 3 (pI :: dz 21 []), []⟩
def jdb (N : Nat) (a : Z11) (c : Int) : Z10 :=
 (if fits (c - (a.length : Int)) then bif decide ((c - (a.length : Int)) < 0) then some (-1) else (iter (fun j (d, e, b) => bif decide (b < (d.length : Int)) then oB (idx d b) fun h => (oB (jaN N h.1 h.2 e) fun f => bif decide (f < 0) then some (-1) else if fits (b + 1) then j (d, f, (b + 1)) else none) else some e) N (a, (c - (a.length : Int)), (0 : Int))) else none)
theorem jns (N : Nat) : mK 63 ⟨⟨[.pv Y17, pI], []⟩, ⟨[pI], []⟩, c2A (jdb N)⟩ :=
 mO (fC (jpy N) ja) Tryz.func63 rfl N (.seq .no (.seq .no (.seq .no (.seq (.seq .no (.block (.loop jms .no))) .no)))) _
def jaT (N : Nat) (b : List UInt8) (c : Int) (a : Int) : Z10 :=
 (if fits (a - (b.length : Int)) then bif decide ((a - (b.length : Int)) < 0) then some (-1) else (some (a - (b.length : Int))) else none)
theorem joe (N : Nat) : mK 139 ⟨⟨[.agg [pS, pI], pI], []⟩, ⟨[pI], []⟩, c3A (jaT N)⟩ :=
 mO ja Tryz.func139 rfl N .no _
def jkA : Sh := ⟨.pv Y13 :: pI :: dz 3 (pI :: dz 21 []), []⟩
def jdV (N : Nat) (a : Z6) (c : Int) : Z10 :=
 (if fits (c - (a.length : Int)) then bif decide ((c - (a.length : Int)) < 0) then some (-1) else (iter (fun j (d, e, b) => bif decide (b < (d.length : Int)) then oB (idx d b) fun h => (oB (jaT N h.1 h.2 e) fun f => bif decide (f < 0) then some (-1) else if fits (b + 1) then j (d, f, (b + 1)) else none) else some e) N (a, (c - (a.length : Int)), (0 : Int))) else none)
theorem jn5 (N : Nat) : mK 64 ⟨⟨[.pv Y13, pI], []⟩, ⟨[pI], []⟩, c2A (jdV N)⟩ :=
 mO (fC (joe N) ja) Tryz.func64 rfl N (.seq .no (.seq .no (.seq .no (.seq (.seq .no (.block (.loop jkA .no))) .no)))) _
def jbq (N : Nat) (f : Int) (e : Z11) (d : Z6) (c : Int) : Z10 :=
 (oB (jdb N e c) fun b => bif decide (b < 0) then some (-1) else oB (jdV N d b) fun a => bif decide (a < 0) then some (-1) else some a)
theorem jnC (N : Nat) : mK 10 ⟨⟨[.agg [pI, .pv Y17, .pv Y13], pI], []⟩, ⟨[pI], []⟩, c4A (jbq N)⟩ :=
 mO (fC (jns N) (fC (jn5 N) ja)) Tryz.func10 rfl N .no _
def jAj : Sh := ⟨[.agg [pI, pS, .pv (.sl .str), pI, pI, .pv (.sl .q)]], []⟩
def jAx : Sh := ⟨[.agg [pI, pS, .own 1 .str 9 true, pI, pI, .own 2 .q 70 true]], []⟩
def jqD : Sh := ⟨.pv (.sl .str) :: .dead :: .dead :: .mtk 600003 .str 9 true :: pI :: dz 17 [], []⟩
def jci (N : Nat) (b : List Z0) : Option ((List Z0)) :=
 (if (b.length : Int) = (b.length : Int) ∧ 0 ≤ (b.length : Int) ∧ (b.length : Int) * 16 ≤ 140737488355328 ∧ (b.length : Int) ≤ 140737488355328 then iter (fun h (d, c, a) => bif decide (a < (d.length : Int)) then oB (idx d a) fun f => (if 0 ≤ a ∧ a < (c.length : Int) then oB (c[a.toNat]?) fun i => (if fits (a + 1) then h (d, (c.set a.toNat f), (a + 1)) else none) else none) else some c) N (b, (List.replicate (b.length : Int).toNat ([] : List UInt8)), (0 : Int)) else none)
theorem jiJ (N : Nat) : mK 71 ⟨⟨[.pv (.sl .str)], []⟩, ⟨[.own 1 .str 9 true], []⟩, c1A (jci N)⟩ :=
 mO ja Tryz.func71 rfl N (.seq .no (.seq .no (.seq (.seq .no (.block (.loop jqD .no))) .no))) _ (wr := [7])
def jCM : Sh := ⟨[.pv (.sl .q)], []⟩
def jCG : Sh := ⟨[.own 1 .q 70 true], []⟩
def jBg : Sh := ⟨.pv (.sl .q) :: .dead :: .dead :: .tre 600003 .q 70 :: pI :: dz 18 [], []⟩
def jyE (N : Nat) (i : Z13 → Option Z13) (b : List DQ) : Option ((List DQ)) :=
 (if (b.length : Int) = (b.length : Int) ∧ 0 ≤ (b.length : Int) ∧ (b.length : Int) * 88 ≤ 140737488355328 ∧ (b.length : Int) ≤ 140737488355328 then iter (fun j (f, e, a) => bif decide (a < (f.length : Int)) then oB (idx f a) fun d => (oB (i (d.kind, d.field, d.words, d.lo, d.hi, d.kids)) fun c => if 0 ≤ a ∧ a < (e.length : Int) then oB (e[a.toNat]?) fun k => (if fits (a + 1) then j (f, (e.set a.toNat (DQ.mk c.1 c.2.1 c.2.2.1 c.2.2.2.1 c.2.2.2.2.1 c.2.2.2.2.2)), (a + 1)) else none) else none) else some e) N (b, (List.replicate (b.length : Int).toNat (DQ.mk 0 ([] : List UInt8) ([] : List Z0) 0 0 ([] : List DQ))), (0 : Int)) else none)
def jAb (N : Nat) (F : Z13 → Option Z13) : Model := ⟨jCM, jCG, fun a => jyE N F a⟩
theorem jAY (N : Nat) (F : Z13 → Option Z13) (hF : mK 51 ⟨jAj, jAx, F⟩) : mK 130 (jAb N F) :=
 mO (fC hF ja) Tryz.func130 rfl N (.seq .no (.seq .no (.seq (.seq .no (.block (.loop jBg .no))) .no))) (jAb N F) (wr := [7]) (dw := [20])
def jxF (N : Nat) : (D : Nat) → Int → Z0 → (List Z0) → Int → Int → (List DQ) → Option Z13
 | 0, _, _, _, _, _, _ => none
 | D + 1, a, a2, a3, a4, a5, a6 =>
 oB (jci N a3) fun r =>
 oB (jyE N (fun a => jxF N D a.1 a.2.1 a.2.2.1 a.2.2.2.1 a.2.2.2.2.1 a.2.2.2.2.2) a6) fun r2 =>
 some (a, a2, r, a4, a5, r2)
def jx7 (N D : Nat) : Model := ⟨jAj, jAx, c6A (jxF N D)⟩
theorem jBK (N D : Nat) (ih : mK 51 (jx7 N D)) : mK 51 (jx7 N (D + 1)) :=
 mO (fC ih (fC (jiJ N) (fC (jAY N _ ih) ja))) Tryz.func51 rfl N .no (jx7 N (D + 1)) (dw := [12, 22])
theorem jy9 (N : Nat) : ∀ D, mK 51 (jx7 N D)
 | 0 => modelOk_none ⟨_, Tryz.func51, by decide, by kernel_rfl⟩ _ (fun a => rfl)
 | D + 1 => jBK N D (jy9 N D)
def l_toAlert_m (N : Nat) (e : List UInt8) (i : Int) (h : List UInt8) (b : List Z0) (c : Int) (f : Int) (d : List DQ) : Option (Z0 × Int × Z0 × (List Z0) × Int × Int × (List DQ)) :=
 (oB (jxF N N i h b c f d) fun a => some (e, a.1, a.2.1, a.2.2.1, a.2.2.2.1, a.2.2.2.2.1, a.2.2.2.2.2))
theorem jHl (N : Nat) : mK 70 ⟨⟨[.agg [pS, pI, pS, .pv (.sl .str), pI, pI, .pv (.sl .q)]], []⟩, ⟨[.agg [pS, pI, pS, .own 1 .str 9 true, pI, pI, .own 2 .q 70 true]], []⟩, c7A (l_toAlert_m N)⟩ :=
 mO (fC (jy9 N N) ja) Tryz.func70 rfl N .no _ (dw := [9])
def jHk : Sh := ⟨.pv (.sl (.pair .str .q)) :: .dead :: .dead :: .tre 600003 (.pair .str .q) 72 :: pI :: dz 18 [], []⟩
def l_toAlertS_m (N : Nat) (b : List (Z0 × DQ)) : Option (Z16) :=
 (if (b.length : Int) = (b.length : Int) ∧ 0 ≤ (b.length : Int) ∧ (b.length : Int) * 104 ≤ 140737488355328 ∧ (b.length : Int) ≤ 140737488355328 then iter (fun i (f, e, a) => bif decide (a < (f.length : Int)) then oB (idx f a) fun d => (oB (l_toAlert_m N d.1 d.2.kind d.2.field d.2.words d.2.lo d.2.hi d.2.kids) fun c => if 0 ≤ a ∧ a < (e.length : Int) then oB (e[a.toNat]?) fun j => (if fits (a + 1) then i (f, (e.set a.toNat (c.1, (DQ.mk c.2.1 c.2.2.1 c.2.2.2.1 c.2.2.2.2.1 c.2.2.2.2.2.1 c.2.2.2.2.2.2))), (a + 1)) else none) else none) else some e) N (b, (List.replicate (b.length : Int).toNat (([] : List UInt8), (DQ.mk 0 ([] : List UInt8) ([] : List Z0) 0 0 ([] : List DQ)))), (0 : Int)) else none)
theorem jHi (N : Nat) : mK 12 ⟨⟨[.pv (.sl (.pair .str .q))], []⟩, ⟨[.own 1 (.pair .str .q) 72 true], []⟩, c1A (l_toAlertS_m N)⟩ :=
 mO (fC (jHl N) ja) Tryz.func12 rfl N (.seq .no (.seq .no (.seq (.seq .no (.block (.loop jHk .no))) .no))) _ (wr := [7]) (dw := [20])
def ja0 (N : Nat) (a : List Z0) (b : List UInt8) : Option Z3 :=
 (oB (jci N a) fun c => some (c, b))
theorem jr7 (N : Nat) : mK 156 ⟨⟨[.agg [.pv (.sl .str), pS]], []⟩, ⟨[.agg [.own 1 .str 9 true, pS]], []⟩, c2A (ja0 N)⟩ :=
 mO (fC (jiJ N) ja) Tryz.func156 rfl N .no _ (dw := [6])
def jos : Sh := ⟨.pv Y14 :: .dead :: .dead :: .tre 600003 Y16 138 :: pI :: dz 18 [], []⟩
def jeh (N : Nat) (b : List Z3) : Option ((List Z3)) :=
 (if (b.length : Int) = (b.length : Int) ∧ 0 ≤ (b.length : Int) ∧ (b.length : Int) * 40 ≤ 140737488355328 ∧ (b.length : Int) ≤ 140737488355328 then iter (fun i (d, c, a) => bif decide (a < (d.length : Int)) then oB (idx d a) fun e => (oB (ja0 N e.1 e.2) fun h => if 0 ≤ a ∧ a < (c.length : Int) then oB (c[a.toNat]?) fun j => (if fits (a + 1) then i (d, (c.set a.toNat h), (a + 1)) else none) else none) else some c) N (b, (List.replicate (b.length : Int).toNat (([] : List Z0), ([] : List UInt8))), (0 : Int)) else none)
theorem jqR (N : Nat) : mK 72 ⟨⟨[.pv Y14], []⟩, ⟨[.own 1 Y16 138 true], []⟩, c1A (jeh N)⟩ :=
 mO (fC (jr7 N) ja) Tryz.func72 rfl N (.seq .no (.seq .no (.seq (.seq .no (.block (.loop jos .no))) .no))) _ (wr := [7]) (dw := [20])
def jad (N : Nat) (b : List Z0) (c : List Z3) : Option ((List Z0) × (List Z3)) :=
 (oB (jci N b) fun d => oB (jeh N c) fun a => some (d, a))
theorem jtJ (N : Nat) : mK 13 ⟨⟨[.agg [.pv (.sl .str), .pv Y14]], []⟩, ⟨[.agg [.own 1 .str 9 true, .own 2 Y16 138 true]], []⟩, c2A (jad N)⟩ :=
 mO (fC (jiJ N) (fC (jqR N) ja)) Tryz.func13 rfl N .no _ (dw := [6, 10])
def jaW (N : Nat) (a : List UInt8) (b : List UInt8) : Option (Z0 × Z0) :=
 (some (a, b))
theorem jlT (N : Nat) : mK 157 ⟨⟨[.agg [pS, pS]], []⟩, ⟨[.agg [pS, pS]], []⟩, c2A (jaW N)⟩ :=
 mO ja Tryz.func157 rfl N .no _
def jp2 : Sh := ⟨.pv Y17 :: .dead :: .dead :: .mtk 600003 Y18 143 true :: pI :: dz 18 [], []⟩
def jdS (N : Nat) (b : Z11) : Option (Z9) :=
 (if (b.length : Int) = (b.length : Int) ∧ 0 ≤ (b.length : Int) ∧ (b.length : Int) * 32 ≤ 140737488355328 ∧ (b.length : Int) ≤ 140737488355328 then iter (fun i (d, c, a) => bif decide (a < (d.length : Int)) then oB (idx d a) fun e => (oB (jaW N e.1 e.2) fun h => if 0 ≤ a ∧ a < (c.length : Int) then oB (c[a.toNat]?) fun j => (if fits (a + 1) then i (d, (c.set a.toNat h), (a + 1)) else none) else none) else some c) N (b, (List.replicate (b.length : Int).toNat (([] : List UInt8), ([] : List UInt8))), (0 : Int)) else none)
theorem jmr (N : Nat) : mK 73 ⟨⟨[.pv Y17], []⟩, ⟨[.own 1 Y18 143 true], []⟩, c1A (jdS N)⟩ :=
 mO (fC (jlT N) ja) Tryz.func73 rfl N (.seq .no (.seq .no (.seq (.seq .no (.block (.loop jp2 .no))) .no))) _ (wr := [7]) (dw := [20])
def jaX (N : Nat) (a : List UInt8) (b : Int) : Option (Z0 × Int) :=
 (some (a, b))
theorem jnE (N : Nat) : mK 158 ⟨⟨[.agg [pS, pI]], []⟩, ⟨[.agg [pS, pI]], []⟩, c2A (jaX N)⟩ :=
 mO ja Tryz.func158 rfl N .no _
def jpn : Sh := ⟨.pv Y13 :: .dead :: .dead :: .mtk 600003 Y15 145 true :: pI :: dz 18 [], []⟩
def jd3 (N : Nat) (b : Z6) : Option (Z5) :=
 (if (b.length : Int) = (b.length : Int) ∧ 0 ≤ (b.length : Int) ∧ (b.length : Int) * 24 ≤ 140737488355328 ∧ (b.length : Int) ≤ 140737488355328 then iter (fun i (d, c, a) => bif decide (a < (d.length : Int)) then oB (idx d a) fun e => (oB (jaX N e.1 e.2) fun h => if 0 ≤ a ∧ a < (c.length : Int) then oB (c[a.toNat]?) fun j => (if fits (a + 1) then i (d, (c.set a.toNat h), (a + 1)) else none) else none) else some c) N (b, (List.replicate (b.length : Int).toNat (([] : List UInt8), 0)), (0 : Int)) else none)
theorem jqJ (N : Nat) : mK 74 ⟨⟨[.pv Y13], []⟩, ⟨[.own 1 Y15 145 true], []⟩, c1A (jd3 N)⟩ :=
 mO (fC (jnE N) ja) Tryz.func74 rfl N (.seq .no (.seq .no (.seq (.seq .no (.block (.loop jpn .no))) .no))) _ (wr := [7]) (dw := [20])
def jbv (N : Nat) (a : Int) (d : Z11) (c : Z6) : Option Z2 :=
 (oB (jdS N d) fun e => oB (jd3 N c) fun b => some (a, e, b))
theorem jsM (N : Nat) : mK 14 ⟨⟨[.agg [pI, .pv Y17, .pv Y13]], []⟩, ⟨[.agg [pI, .own 1 Y18 143 true, .own 2 Y15 145 true]], []⟩, c3A (jbv N)⟩ :=
 mO (fC (jmr N) (fC (jqJ N) ja)) Tryz.func14 rfl N .no _ (dw := [9, 13])
def jt (N : Nat) (a : Int) : Z10 :=
 (bif decide ((65 : Int) ≤ a) then bif decide (a ≤ 90) then some (IntKind.u8.wrap (a + 32)) else (bif decide ((97 : Int) ≤ a) then bif decide (a ≤ 122) then some a else (bif decide ((48 : Int) ≤ a) then bif decide (a ≤ 57) then some a else (some 0) else some 0) else bif decide ((48 : Int) ≤ a) then bif decide (a ≤ 57) then some a else (some 0) else some 0) else bif decide ((97 : Int) ≤ a) then bif decide (a ≤ 122) then some a else (bif decide ((48 : Int) ≤ a) then bif decide (a ≤ 57) then some a else (some 0) else some 0) else bif decide ((48 : Int) ≤ a) then bif decide (a ≤ 57) then some a else (some 0) else some 0)
theorem jfG (N : Nat) : mK 207 ⟨⟨[.pv (.int .u8)], []⟩, ⟨[.pv (.int .u8)], []⟩, c1A (jt N)⟩ :=
 mO ja Tryz.func207 rfl N .no _
def jJ (N : Nat) (a : Int) (c : Int) (b : Int) : Z7 :=
 (bif decide (c ≤ a) then some (decide (a ≤ b)) else some false)
theorem jcL (N : Nat) : mK 112 ⟨⟨[pI, pI, pI], []⟩, ⟨[pB], []⟩, c3A (jJ N)⟩ :=
 mO ja Tryz.func112 rfl N .no _
def jr5 : Sh := ⟨pS :: .dead :: .dead :: pI :: dz 23 [], []⟩
def jT (N : Nat) (e : List UInt8) : Z7 :=
 (iter (fun k (a, b) => bif decide (b < (a.length : Int)) then oB (idx a b) fun c => (oB (jt N (c.toNat : Int)) fun j => oB (idx a b) fun f => bif !decide (j = (f.toNat : Int)) then some false else oB (idx a b) fun h => bif decide ((h.toNat : Int) = 0) then some false else if fits (b + 1) then k (a, (b + 1)) else none) else oB (jJ N (a.length : Int) 1 12) fun i => some i) N (e, (0 : Int)))
theorem jgp (N : Nat) : mK 140 ⟨⟨[pS], []⟩, ⟨[pB], []⟩, c1A (jT N)⟩ :=
 mO (fC (jfG N) (fC (jcL N) ja)) Tryz.func140 rfl N (.seq .no (.seq (.seq .no (.block (.loop jr5 .no))) .no)) _
def jxz (N : Nat) (k : Int) (i : List UInt8) (f : List Z0) (c : Int) (d : Int) (a : List DQ) (j : Bool) (h : Bool) (e : Bool) (b : Bool) : Z7 :=
 (bif j then bif h then bif e then bif b then some true else (some (decide ((a.length : Int) = 0))) else (bif decide (c = 0) then bif decide (d = 0) then bif b then some true else (some (decide ((a.length : Int) = 0))) else (some false) else some false) else (bif decide ((f.length : Int) = 0) then bif e then bif b then some true else (some (decide ((a.length : Int) = 0))) else (bif decide (c = 0) then bif decide (d = 0) then bif b then some true else (some (decide ((a.length : Int) = 0))) else (some false) else some false) else some false) else bif decide (i = ([] : List UInt8)) then bif h then bif e then bif b then some true else (some (decide ((a.length : Int) = 0))) else (bif decide (c = 0) then bif decide (d = 0) then bif b then some true else (some (decide ((a.length : Int) = 0))) else (some false) else some false) else (bif decide ((f.length : Int) = 0) then bif e then bif b then some true else (some (decide ((a.length : Int) = 0))) else (bif decide (c = 0) then bif decide (d = 0) then bif b then some true else (some (decide ((a.length : Int) = 0))) else (some false) else some false) else some false) else some false)
theorem jDV (N : Nat) : mK 299 ⟨⟨[.agg [pI, pS, .pv (.sl .str), pI, pI, .pv (.sl .q)], pB, pB, pB, pB], []⟩, ⟨[pB], []⟩, c10A (jxz N)⟩ :=
 mO ja Tryz.func299 rfl N .no _
def jDt : Sh := ⟨.pv (.sl .str) :: pI :: dz 3 (pI :: dz 16 []), []⟩
def jxL (N : Nat) (e : List Z0) (h : Int) : Z7 :=
 (iter (fun k (a, c, b) => bif decide (b < (a.length : Int)) then oB (idx a b) fun j => (oB (jT N j) fun f => bif !f then some false else if fits (b + 1) then k (a, c, (b + 1)) else none) else oB (jJ N (a.length : Int) 1 c) fun i => some i) N (e, h, (0 : Int)))
theorem jDs (N : Nat) : mK 300 ⟨⟨[.pv (.sl .str), pI], []⟩, ⟨[pB], []⟩, c2A (jxL N)⟩ :=
 mO (fC (jgp N) (fC (jcL N) ja)) Tryz.func300 rfl N (.seq .no (.seq (.seq .no (.block (.loop jDt .no))) .no)) _
def jBL : Sh := ⟨pS :: .dead :: .dead :: pI :: dz 28 [], []⟩
def jyk (N : Nat) (f : List UInt8) : Z7 :=
 (iter (fun c (b, a) => bif decide (a < (b.length : Int)) then oB (idx b a) fun d => (bif !decide ((d.toNat : Int) = 42) then oB (idx b a) fun h => (bif !decide ((h.toNat : Int) = 63) then if fits (a + 1) then oB (cut b a (a + 1)) fun j => (oB (jT N j) fun k => bif !k then some false else if fits (a + 1) then c (b, (a + 1)) else none) else none else if fits (a + 1) then c (b, (a + 1)) else none) else if fits (a + 1) then c (b, (a + 1)) else none) else oB (jJ N (b.length : Int) 1 12) fun i => some i) N (f, (0 : Int)))
theorem jC1 (N : Nat) : mK 301 ⟨⟨[pS], []⟩, ⟨[pB], []⟩, c1A (jyk N)⟩ :=
 mO (fC (jgp N) (fC (jcL N) ja)) Tryz.func301 rfl N (.seq .no (.seq (.seq .no (.block (.loop jBL .no))) .no)) _
def jDP : Sh := ⟨.dead :: .box 1 0 :: .dead :: pI :: dz 4 (pI :: dz 123 (pB :: dz 34 [])), [(1, false, [pI, pS, .pv (.sl .str), pI, pI, .pv (.sl .q)])]⟩
def jyq (N : Nat) (a : Int) (c : List UInt8) (b : List Z0) (d : Int) (e : Int) (f : List DQ) : Z7 :=
 (bif decide (a = 1) then oB (jxz N a c b d e f false false false false) fun Q => (some Q) else bif decide (a = 2) then oB (jxz N a c b d e f true true false false) fun O => (bif O then oB (jT N c) fun r => (bif r then oB (jxL N b 1) fun R => (some R) else some false) else some false) else bif decide (a = 3) then oB (jxz N a c b d e f true true true false) fun y => (bif y then oB (jT N c) fun w => (bif w then oB (jxL N b 4) fun L => (bif L then bif decide ((1 : Int) < (b.length : Int)) then bif decide (e = 0) then oB (jJ N d 0 5) fun t => (some t) else (some false) else (some false) else some false) else some false) else some false) else bif decide (a = 4) then oB (jxz N a c b d e f true true true false) fun q => (bif q then oB (jT N c) fun z => (bif z then oB (jxL N b 1) fun U => (bif U then bif decide (e = 0) then oB (jJ N d 1 2) fun S => (some S) else (some false) else some false) else some false) else some false) else bif decide (a = 5) then oB (jxz N a c b d e f true true false false) fun I => (bif I then oB (jT N c) fun v => (bif v then bif decide ((b.length : Int) = 1) then oB (idx b 0) fun X => (oB (jyk N X) fun K => bif K then oB (idx b 0) fun B => (oB (jT N B) fun u => some (!u)) else some false) else (some false) else some false) else some false) else bif decide (a = 6) then oB (jxz N a c b d e f true false true false) fun W => (bif W then oB (jT N c) fun P => (bif P then oB (jJ N d 0 999999999) fun H => (bif H then oB (jJ N e d 999999999) fun G => (some G) else some false) else some false) else some false) else meet (fun (A : Int × Int × Bool × Int × Z0 × (List Z0) × Int × Int × (List DQ)) => match A with | (k, p, E, n, j, l, i, h, m) => bif E then oB (jxz N n j l i h m false false false true) fun x => (bif x then oB (jJ N k 2 4) fun C => (some C) else some false) else bif decide (p = 9) then oB (jxz N n j l i h m false false false true) fun D => (bif D then some (decide (k = 2)) else some false) else bif decide (p = 10) then oB (jxz N n j l i h m false false true true) fun V => (bif V then bif decide (k = 1) then bif decide (h = 0) then oB (jJ N i 2 9) fun T => (some T) else (some false) else (some false) else some false) else some false) fun o => bif decide (a = 7) then o ((f.length : Int), a, true, a, c, b, d, e, f) else o ((f.length : Int), a, (decide (a = 8)), a, c, b, d, e, f))
theorem jBO (N : Nat) : mK 249 ⟨⟨[.agg [pI, pS, .pv (.sl .str), pI, pI, .pv (.sl .q)]], []⟩, ⟨[pB], []⟩, c6A (jyq N)⟩ :=
 mO (fC (jDV N) (fC (jgp N) (fC (jDs N) (fC (jcL N) (fC (jC1 N) ja))))) Tryz.func249 rfl N (.seq .no (.seq .no (.seq (.seq .no (.block (.seq .no (.cond .no (.seq .no (.cond .no (.seq .no (.cond .no (.seq .no (.cond .no (.seq .no (.cond .no (.seq .no (.cond .no (.meet jDP .no .no))))))))))))))) .no))) _
def jD7 : Sh := ⟨.dead :: pI :: .box 2 0 :: .dead :: .dead :: pI :: dz 23 [], [(2, false, [pI, pS, .pv (.sl .str), pI, pI, .pv (.sl .q)])]⟩
def jxO (N : Nat) : (D : Nat) → Int → Z0 → (List Z0) → Int → Int → (List DQ) → Int → Z7
 | 0, _, _, _, _, _, _, _ => none
 | D + 1, q, q2, q3, q4, q5, q6, deep =>
 bif decide (deep = 0) then
 some false
 else
 oB (jyq N q q2 q3 q4 q5 q6) fun r =>
 bif !r then
 some false
 else
 iter (fun go (g : Int × Int × Int × Z0 × (List Z0) × Int × Int × (List DQ)) =>
 match g with
 | (deep2, i, q7, q8, q9, q10, q11, q12) =>
 bif decide (i < (q12.length : Int)) then
 oB (idx q12 i) fun e =>
 (if fits (deep2 - 1) then oB (jxO N D e.kind e.field e.words e.lo e.hi e.kids (deep2 - 1)) fun r2 =>
 (bif !r2 then
 some false
 else
 if fits (i + 1) then go (deep2, (i + 1), q7, q8, q9, q10, q11, q12) else none) else none)
 else
 some true) N (deep, 0, q, q2, q3, q4, q5, q6)
def jx9 (N D : Nat) : Model := ⟨⟨[.agg [pI, pS, .pv (.sl .str), pI, pI, .pv (.sl .q)], pI], []⟩, ⟨[pB], []⟩, c7A (jxO N D)⟩
theorem jBT (N D : Nat) (ih : mK 184 (jx9 N D)) : mK 184 (jx9 N (D + 1)) :=
 mO (fC ih (fC (jBO N) ja)) Tryz.func184 rfl N (.seq .no (.seq .no (.seq (.seq .no (.block (.loop jD7 .no))) .no))) (jx9 N (D + 1))
theorem jzV (N : Nat) : ∀ D, mK 184 (jx9 N D)
 | 0 => modelOk_none ⟨_, Tryz.func184, by decide, by kernel_rfl⟩ _ (fun a => rfl)
 | D + 1 => jBT N D (jzV N D)
def jE5 (N : Nat) (f : Int) (a : List UInt8) (c : List Z0) (b : Int) (d : Int) (e : List DQ) : Z7 :=
 (oB (jxO N N f a c b d e 4) fun h => some h)
theorem jBX (N : Nat) : mK 111 ⟨⟨[.agg [pI, pS, .pv (.sl .str), pI, pI, .pv (.sl .q)]], []⟩, ⟨[pB], []⟩, c6A (jE5 N)⟩ :=
 mO (fC (jzV N N) ja) Tryz.func111 rfl N .no _
def jGb : Sh := ⟨.pv (.sl (.pair .str .q)) :: .dead :: .dead :: pI :: dz 43 [], []⟩
def jE4 (N : Nat) (i : List (Z0 × DQ)) : Z7 :=
 (iter (fun f (b, a) => bif decide (a < (b.length : Int)) then oB (idx b a) fun l => (oB (jT N l.1) fun j => bif !j then some false else oB (idx b a) fun c => oB (jE5 N c.2.kind c.2.field c.2.words c.2.lo c.2.hi c.2.kids) fun k => bif !k then some false else bif decide ((0 : Int) < a) then oB (idx b a) fun d => (if fits (a - 1) then oB (idx b (a - 1)) fun e => (bif Op.bytesLess d.1 e.1 || decide (d.1 = e.1) then some false else if fits (a + 1) then f (b, (a + 1)) else none) else none) else if fits (a + 1) then f (b, (a + 1)) else none) else some (decide ((b.length : Int) ≤ 6))) N (i, (0 : Int)))
theorem jFd (N : Nat) : mK 65 ⟨⟨[.pv (.sl (.pair .str .q))], []⟩, ⟨[pB], []⟩, c1A (jE4 N)⟩ :=
 mO (fC (jgp N) (fC (jBX N) ja)) Tryz.func65 rfl N (.seq .no (.seq (.seq .no (.block (.loop jGb .no))) .no)) _
def jdI (N : Nat) : Option ((List Z0)) :=
 (some ([([105, 110, 103] : List UInt8), ([101, 100] : List UInt8), ([101, 115] : List UInt8), ([108, 121] : List UInt8), ([115] : List UInt8)] : List Z0))
theorem jkj (N : Nat) : mK 271 ⟨⟨[], []⟩, ⟨[.own 1 .str 9 true], []⟩, fun a => jdI N ⟩ :=
 mO ja Tryz.func271 rfl N .no _
def jl2 : Sh := ⟨pS :: .dead :: .dead :: pI :: dz 30 [], []⟩
def ja6 (N : Nat) (f : List UInt8) : Option (Z0) :=
 (iter (fun d (a, b) => oB (jdI N) fun k => bif decide (b < (k.length : Int)) then oB (jdI N) fun i => (oB (idx i b) fun c => if fits ((a.length : Int) - (c.length : Int)) then bif decide ((3 : Int) ≤ ((a.length : Int) - (c.length : Int))) then oB (cut a ((a.length : Int) - (c.length : Int)) (a.length : Int)) fun j => (bif decide (j = c) then oB (cut a 0 ((a.length : Int) - (c.length : Int))) fun h => (some h) else if fits (b + 1) then d (a, (b + 1)) else none) else (if fits (b + 1) then d (a, (b + 1)) else none) else none) else some a) N (f, (0 : Int)))
theorem jtL (N : Nat) : mK 208 ⟨⟨[pS], []⟩, ⟨[pS], []⟩, c1A (ja6 N)⟩ :=
 mO (fC (jkj N) ja) Tryz.func208 rfl N (.seq .no (.seq (.seq .no (.block (.loop jl2 .no))) .no)) _
def jto : Sh := ⟨pS :: dz 9 [], []⟩
def jaq (N : Nat) (b : List UInt8) : Option (Z0) :=
 (iter (fun e (a : Z0) => let s2 := a; (oB (ja6 N s2) fun d => bif !decide (d = s2) then oB (ja6 N s2) fun c => (e c) else some s2)) N b)
theorem jfZ (N : Nat) : mK 141 ⟨⟨[pS], []⟩, ⟨[pS], []⟩, c1A (jaq N)⟩ :=
 mO (fC (jtL N) ja) Tryz.func141 rfl N (.seq .no (.seq (.block (.loop jto .no)) .no)) _
def jlY : Sh := ⟨.pv (.sl .str) :: pS :: dz 3 (pI :: dz 12 []), []⟩
def jap (N : Nat) (f : List Z0) (e : List UInt8) : Z7 :=
 (iter (fun i (b, c, a) => bif decide (a < (b.length : Int)) then oB (idx b a) fun h => (bif decide (h = c) then some true else if fits (a + 1) then i (b, c, (a + 1)) else none) else some false) N (f, e, (0 : Int)))
theorem jhP (N : Nat) : mK 142 ⟨⟨[.pv (.sl .str), pS], []⟩, ⟨[pB], []⟩, c2A (jap N)⟩ :=
 mO ja Tryz.func142 rfl N (.seq .no (.seq (.seq .no (.block (.loop jlY .no))) .no)) _
def jrs : Sh := ⟨.dead :: .box 1 0 :: .dead :: pI :: dz 114 [], [(1, false, [.pv (.sl .str), .pv Y14])]⟩
def js0 : Sh := ⟨.dead :: .box 1 0 :: .dead :: .dead :: pI :: dz 113 [], [(1, false, [.pv (.sl .str), .pv Y14])]⟩
def jrc : Sh := ⟨.dead :: .box 1 0 :: .dead :: .dead :: pI :: .box 5 0 :: pI :: dz 111 [], [(1, false, [.pv (.sl .str), .pv Y14]), (5, false, [.pv (.sl .str), pS])]⟩
def jcw (N : Nat) (u : List Z0) (z : List Z3) : Z7 :=
 (iter (fun p (a, d, l) => bif decide (a < (d.length : Int)) then oB (idx d a) fun K => (oB (jT N K) fun D => bif !D then some false else bif decide ((0 : Int) < a) then oB (idx d a) fun q => (if fits (a - 1) then oB (idx d (a - 1)) fun m => (bif Op.bytesLess q m || decide (q = m) then some false else if fits (a + 1) then p ((a + 1), d, l) else none) else none) else if fits (a + 1) then p ((a + 1), d, l) else none) else iter (fun G (k, o, f) => bif decide (k < (f.length : Int)) then oB (idx f k) fun r => (iter (fun I (i, c, j, n, b, h) => bif decide (c < (b.length : Int)) then oB (idx b c) fun H => (oB (jT N H) fun B => bif !B then some false else oB (idx b c) fun x => oB (jaq N x) fun t => oB (idx b c) fun y => bif !decide (t = y) then some false else oB (idx b c) fun C => oB (jap N j C) fun E => bif E then some false else if fits (c + 1) then I (i, (c + 1), j, n, b, h) else none) else oB (jJ N (b.length : Int) 1 3) fun A => bif !A then some false else oB (jT N h) fun w => bif !w then some false else oB (jaq N h) fun v => bif !decide (v = h) then some false else if fits (i + 1) then G ((i + 1), j, n) else none) N (k, (0 : Int), o, f, r.1, r.2)) else bif decide ((o.length : Int) ≤ 6) then some (decide ((f.length : Int) ≤ 4)) else some false) N ((0 : Int), d, l)) N ((0 : Int), u, z))
theorem jtf (N : Nat) : mK 66 ⟨⟨[.agg [.pv (.sl .str), .pv Y14]], []⟩, ⟨[pB], []⟩, c2A (jcw N)⟩ :=
 mO (fC (jgp N) (fC (jfZ N) (fC (jhP N) (fC (jcL N) ja)))) Tryz.func66 rfl N (.seq .no (.seq (.seq .no (.block (.loop jrs .no))) (.seq (.seq .no (.block (.loop js0 (.seq .no (.seq (.block (.seq .no (.seq (.seq .no (.block (.loop jrc .no))) .no))) .no))))) .no))) _
def jot : Sh := ⟨pS :: .dead :: .dead :: pI :: dz 19 [], []⟩
def jcu (N : Nat) (e : List UInt8) : Z7 :=
 (iter (fun h (a, b) => bif decide (b < (a.length : Int)) then oB (idx a b) fun c => (bif decide ((c.toNat : Int) < 32) then some false else oB (idx a b) fun f => bif decide ((126 : Int) < (f.toNat : Int)) then some false else if fits (b + 1) then h (a, (b + 1)) else none) else some (decide ((a.length : Int) ≤ 160))) N (e, (0 : Int)))
theorem jpZ (N : Nat) : mK 143 ⟨⟨[pS], []⟩, ⟨[pB], []⟩, c1A (jcu N)⟩ :=
 mO ja Tryz.func143 rfl N (.seq .no (.seq (.seq .no (.block (.loop jot .no))) .no)) _
def jp0 : Sh := ⟨.dead :: .box 1 0 :: .dead :: pI :: dz 100 [], [(1, false, [pI, .pv Y17, .pv Y13])]⟩
def jtP : Sh := ⟨.dead :: .box 1 0 :: dz 3 (pI :: dz 98 []), [(1, false, [pI, .pv Y17, .pv Y13])]⟩
def jcb (N : Nat) (A : Int) (v : Z11) (z : Z6) : Z7 :=
 (iter (fun m (b, f, d, k) => bif decide (b < (d.length : Int)) then oB (idx d b) fun e => (oB (jT N e.1) fun x => bif !x then some false else oB (jcu N e.2) fun w => bif !w then some false else bif decide ((0 : Int) < b) then if fits (b - 1) then oB (idx d (b - 1)) fun o => (bif Op.bytesLess e.1 o.1 || decide (e.1 = o.1) then some false else if fits (b + 1) then m ((b + 1), f, d, k) else none) else none else if fits (b + 1) then m ((b + 1), f, d, k) else none) else iter (fun n (a, h, j, c) => bif decide (a < (c.length : Int)) then oB (idx c a) fun q => (oB (jT N q.1) fun r => bif !r then some false else oB (idx c a) fun B => oB (jJ N B.2 0 999999999) fun y => bif !y then some false else bif decide ((0 : Int) < a) then oB (idx c a) fun p => (if fits (a - 1) then oB (idx c (a - 1)) fun l => (bif Op.bytesLess p.1 l.1 || decide (p.1 = l.1) then some false else if fits (a + 1) then n ((a + 1), h, j, c) else none) else none) else if fits (a + 1) then n ((a + 1), h, j, c) else none) else oB (jJ N h 1 9999) fun u => bif u then oB (jJ N (j.length : Int) 0 3) fun t => (bif t then some (decide ((c.length : Int) ≤ 3)) else some false) else some false) N ((0 : Int), f, d, k)) N ((0 : Int), A, v, z))
theorem jpD (N : Nat) : mK 67 ⟨⟨[.agg [pI, .pv Y17, .pv Y13]], []⟩, ⟨[pB], []⟩, c3A (jcb N)⟩ :=
 mO (fC (jgp N) (fC (jpZ N) (fC (jcL N) ja))) Tryz.func67 rfl N (.seq .no (.seq (.seq .no (.block (.loop jp0 .no))) (.seq (.seq .no (.block (.loop jtP .no))) .no))) _
def jl5 : Sh := ⟨.pv (.sl .str) :: pS :: dz 3 (pI :: dz 42 []), []⟩
def s_l7Put_m (N : Nat) (t : List Z0) (r : List UInt8) : Option ((List Z0)) :=
 (iter (fun o (a, b, c) => bif decide (c < (a.length : Int)) then oB (idx a c) fun n => (bif Op.bytesLess n b then if fits (c + 1) then o (a, b, (c + 1)) else none else bif decide (c < (a.length : Int)) then oB (idx a c) fun q => (bif decide (q = b) then some a else oB (cut a 0 c) fun d => if room ([] : List Z0).length d.length 16 then if room (([] : List Z0) ++ d).length ([b] : List Z0).length 16 then oB (cut a c (a.length : Int)) fun l => (if room ((([] : List Z0) ++ d) ++ ([b] : List Z0)).length l.length 16 then some (((([] : List Z0) ++ d) ++ ([b] : List Z0)) ++ l) else none) else none else none) else oB (cut a 0 c) fun e => if room ([] : List Z0).length e.length 16 then if room (([] : List Z0) ++ e).length ([b] : List Z0).length 16 then oB (cut a c (a.length : Int)) fun k => (if room ((([] : List Z0) ++ e) ++ ([b] : List Z0)).length k.length 16 then some (((([] : List Z0) ++ e) ++ ([b] : List Z0)) ++ k) else none) else none else none) else bif decide (c < (a.length : Int)) then oB (idx a c) fun m => (bif decide (m = b) then some a else oB (cut a 0 c) fun h => if room ([] : List Z0).length h.length 16 then if room (([] : List Z0) ++ h).length ([b] : List Z0).length 16 then oB (cut a c (a.length : Int)) fun j => (if room ((([] : List Z0) ++ h) ++ ([b] : List Z0)).length j.length 16 then some (((([] : List Z0) ++ h) ++ ([b] : List Z0)) ++ j) else none) else none else none) else oB (cut a 0 c) fun f => if room ([] : List Z0).length f.length 16 then if room (([] : List Z0) ++ f).length ([b] : List Z0).length 16 then oB (cut a c (a.length : Int)) fun i => (if room ((([] : List Z0) ++ f) ++ ([b] : List Z0)).length i.length 16 then some (((([] : List Z0) ++ f) ++ ([b] : List Z0)) ++ i) else none) else none else none) N (t, r, (0 : Int)))
theorem jgt (N : Nat) : mK 209 ⟨⟨[.pv (.sl .str), pS], []⟩, ⟨[.pv (.sl .str)], []⟩, c2A (s_l7Put_m N)⟩ :=
 mO ja Tryz.func209 rfl N (.seq .no (.seq .no (.seq (.block (.loop jl5 .no)) .no))) _
def joT : Sh := ⟨.pv Y2 :: .dead :: .dead :: .pv (.sl .str) :: pI :: dz 30 [], []⟩
def jkn : Sh := ⟨.pv Y2 :: .dead :: .dead :: .pv (.sl .str) :: pI :: pI :: dz 29 [], []⟩
def s_l7Names_m (N : Nat) (m : List Z2) : Option ((List Z0)) :=
 (iter (fun p (e, f, i) => bif decide (i < (e.length : Int)) then iter (fun k (c, h, a, b) => oB (idx c a) fun o => bif decide (b < (o.2.1.length : Int)) then oB (idx c a) fun l => (oB (idx l.2.1 b) fun j => oB (s_l7Put_m N h j.1) fun n => if fits (b + 1) then k (c, n, a, (b + 1)) else none) else if fits (a + 1) then p (c, h, (a + 1)) else none) N (e, f, i, (0 : Int)) else some f) N (m, ([] : List Z0), (0 : Int)))
theorem jlz (N : Nat) : mK 144 ⟨⟨[.pv Y2], []⟩, ⟨[.pv (.sl .str)], []⟩, c1A (s_l7Names_m N)⟩ :=
 mO (fC (jgt N) ja) Tryz.func144 rfl N (.seq .no (.seq .no (.seq (.seq .no (.block (.loop joT (.seq .no (.seq (.block (.seq .no (.block (.loop jkn .no)))) .no))))) .no))) _
def jl8 : Sh := ⟨.dead :: pS :: .box 2 0 :: .dead :: .dead :: pI :: dz 21 [], [(2, false, [pI, .pv Y17, .pv Y13])]⟩
def s_l6Field_m (N : Nat) (e : Int) (k : Z11) (d : Z6) (m : List UInt8) : Option (Z0) :=
 (iter (fun n (c, a, i, b, j) => bif decide (a < (b.length : Int)) then oB (idx b a) fun l => (bif decide (l.1 = c) then oB (idx b a) fun h => (some h.2) else if fits (a + 1) then n (c, (a + 1), i, b, j) else none) else some ([] : List UInt8)) N (m, (0 : Int), e, k, d))
theorem jhA (N : Nat) : mK 211 ⟨⟨[.agg [pI, .pv Y17, .pv Y13], pS], []⟩, ⟨[pS], []⟩, c4A (s_l6Field_m N)⟩ :=
 mO ja Tryz.func211 rfl N (.seq .no (.seq (.seq .no (.block (.loop jl8 .no))) .no)) _
def jo3 : Sh := ⟨pS :: .dead :: .dead :: .own 600003 Y6 231 true :: pI :: dz 50 [], []⟩
def jm6 : Sh := ⟨pS :: .dead :: .dead :: .own 600003 Y6 231 true :: pI :: .own 600005 (.int .u8) 5 true :: pI :: dz 48 [], []⟩
def jtK : Sh := ⟨pS :: .dead :: .dead :: .own 600003 Y6 231 true :: pI :: .pv (.sl (.int .u8)) :: pI :: dz 48 [], []⟩
def jb3 (N : Nat) (D : List UInt8) : Option ((List Z8)) :=
 (iter (fun l (r, u, n) => bif decide (n < (r.length : Int)) then iter (fun C (c, i, a, b, h) => bif decide (a < (c.length : Int)) then oB (idx c a) fun z => (oB (jt N (z.toNat : Int)) fun G => bif !decide (G = 0) then oB (idx c a) fun A => (oB (jt N (A.toNat : Int)) fun v => if room b.length ([v] : List Int).length 1 then if fits (a + 1) then C (c, i, (a + 1), (b ++ ([v] : List Int)), h) else none else none) else meet (fun (d : Z0 × (List Z8) × Int × (List Int) × Int) => match d with | (t, k, f, o, y) => bif decide ((0 : Int) < (o.length : Int)) then if room k.length ([((bytesOf o), (k.length : Int), y, f)] : List Z8).length 40 then if fits (f + 1) then l (t, (k ++ ([((bytesOf o), (k.length : Int), y, f)] : List Z8)), (f + 1)) else none else none else if fits (f + 1) then l (t, k, (f + 1)) else none) fun p => bif decide ((12 : Int) < (b.length : Int)) then oB (cut b 0 12) fun B => (p (c, i, a, B, h)) else p (c, i, a, b, h)) else meet (fun (d : Z0 × (List Z8) × Int × (List Int) × Int) => match d with | (q, j, e, m, w) => bif decide ((0 : Int) < (m.length : Int)) then if room j.length ([((bytesOf m), (j.length : Int), w, e)] : List Z8).length 40 then if fits (e + 1) then l (q, (j ++ ([((bytesOf m), (j.length : Int), w, e)] : List Z8)), (e + 1)) else none else none else if fits (e + 1) then l (q, j, (e + 1)) else none) fun x => bif decide ((12 : Int) < (b.length : Int)) then oB (cut b 0 12) fun E => (x (c, i, a, E, h)) else x (c, i, a, b, h)) N (r, u, n, ([] : List Int), n) else some u) N (D, ([] : List Z8), (0 : Int)))
theorem jsr (N : Nat) : mK 319 ⟨⟨[pS], []⟩, ⟨[.own 1 Y6 231 true], []⟩, c1A (jb3 N)⟩ :=
 mO (fC (jfG N) ja) Tryz.func319 rfl N (.seq .no (.seq .no (.seq (.seq .no (.block (.loop jo3 (.seq .no (.seq (.block (.seq .no (.seq .no (.seq (.block (.loop jm6 .no)) (.meet jtK .no .no))))) .no))))) .no))) _
def jmf : Sh := ⟨.dead :: .dead :: .box 2 0 :: .dead :: .dead :: .own 600005 Y15 151 true :: .own 600006 Y6 231 true :: pI :: dz 43 [], [(2, false, [.pv (.sl .str), .pv Y14])]⟩
def jbY (N : Nat) (k : List Z0) (l : List Z3) (q : List UInt8) : Option (Z5) :=
 (oB (jb3 N q) fun r => iter (fun f (c, b, a, d, h) => bif decide (a < (b.length : Int)) then oB (idx b a) fun m => (oB (jaq N m.1) fun e => oB (idx b a) fun p => oB (jap N d p.1) fun j => bif !j then oB (jap N d e) fun n => (bif !n then oB (idx b a) fun i => (if room c.length ([(e, i.2.1)] : Z6).length 24 then if fits (a + 1) then f ((c ++ ([(e, i.2.1)] : Z6)), b, (a + 1), d, h) else none else none) else if fits (a + 1) then f (c, b, (a + 1), d, h) else none) else if fits (a + 1) then f (c, b, (a + 1), d, h) else none) else some c) N (([] : Z6), r, (0 : Int), k, l))
theorem jrk (N : Nat) : mK 272 ⟨⟨[.agg [.pv (.sl .str), .pv Y14], pS], []⟩, ⟨[.own 1 Y15 151 true], []⟩, c3A (jbY N)⟩ :=
 mO (fC (jsr N) (fC (jfZ N) (fC (jhP N) ja))) Tryz.func272 rfl N (.seq .no (.seq .no (.seq .no (.seq (.seq .no (.block (.loop jmf .no))) .no)))) _
def jrL : Sh := ⟨.pv Y13 :: .pv (.sl .str) :: dz 3 (pI :: dz 36 []), []⟩
def jcC (N : Nat) (j : Z6) (f : List Z0) : Z7 :=
 (iter (fun l (b, c, a) => bif decide (a < (c.length : Int)) then bif decide ((b.length : Int) ≤ a) then some false else (oB (idx b a) fun k => oB (idx c a) fun i => bif !decide (k.1 = i) then some false else oB (idx b a) fun e => oB (idx b 0) fun d => if fits (d.2 + a) then bif !decide (e.2 = (d.2 + a)) then some false else (if fits (a + 1) then l (b, c, (a + 1)) else none) else none) else some true) N (j, f, (0 : Int)))
theorem jtg (N : Nat) : mK 320 ⟨⟨[.pv Y13, .pv (.sl .str)], []⟩, ⟨[pB], []⟩, c2A (jcC N)⟩ :=
 mO ja Tryz.func320 rfl N (.seq .no (.seq (.seq .no (.block (.loop jrL .no))) .no)) _
def jlL : Sh := ⟨.dead :: .pv Y13 :: .box 2 0 :: .dead :: .dead :: pI :: pI :: dz 38 [], [(2, false, [.pv (.sl .str), .pv Y14])]⟩
def jcJ (N : Nat) (i : List Z0) (m : List Z3) (l : Z6) : Z10 :=
 (iter (fun f (c, d, a, e, b) => bif decide (a < (b.length : Int)) then oB (idx b a) fun n => (oB (jcC N c n.1) fun o => bif o then bif decide (d < 0) then if fits (a + 1) then f (c, a, (a + 1), e, b) else none else (oB (idx b a) fun k => oB (idx b d) fun h => bif decide ((h.1.length : Int) < (k.1.length : Int)) then if fits (a + 1) then f (c, a, (a + 1), e, b) else none else if fits (a + 1) then f (c, d, (a + 1), e, b) else none) else if fits (a + 1) then f (c, d, (a + 1), e, b) else none) else some d) N (l, ((-1) : Int), (0 : Int), i, m))
theorem jqp (N : Nat) : mK 273 ⟨⟨[.agg [.pv (.sl .str), .pv Y14], .pv Y13], []⟩, ⟨[pI], []⟩, c3A (jcJ N)⟩ :=
 mO (fC (jtg N) ja) Tryz.func273 rfl N (.seq .no (.seq .no (.seq (.seq .no (.block (.loop jlL .no))) .no))) _
def jnK : Sh := ⟨.dead :: .dead :: .box 2 0 :: .dead :: .dead :: .own 600005 Y15 151 true :: .pv Y13 :: dz 45 [], [(2, false, [.pv (.sl .str), .pv Y14])]⟩
def ja5 (N : Nat) (h : List Z0) (i : List Z3) (o : List UInt8) : Option (Z5) :=
 (oB (jbY N h i o) fun r => iter (fun k (b, a, e, c) => bif decide ((0 : Int) < (a.length : Int)) then oB (jcJ N e c a) fun d => (bif decide (d < 0) then oB (idx a 0) fun j => (if room b.length ([j] : Z6).length 24 then oB (cut a 1 (a.length : Int)) fun m => (k ((b ++ ([j] : Z6)), m, e, c)) else none) else oB (idx c d) fun l => oB (idx a 0) fun f => if room b.length ([(l.2, f.2)] : Z6).length 24 then oB (idx c d) fun p => (oB (cut a (p.1.length : Int) (a.length : Int)) fun q => k ((b ++ ([(l.2, f.2)] : Z6)), q, e, c)) else none) else some b) N (([] : Z6), r, h, i))
theorem jiO (N : Nat) : mK 210 ⟨⟨[.agg [.pv (.sl .str), .pv Y14], pS], []⟩, ⟨[.own 1 Y15 151 true], []⟩, c3A (ja5 N)⟩ :=
 mO (fC (jrk N) (fC (jqp N) ja)) Tryz.func210 rfl N (.seq .no (.seq .no (.seq .no (.seq (.block (.loop jnK .no)) .no)))) _
def jn9 : Sh := ⟨.dead :: .pv Y2 :: pS :: .box 3 0 :: dz 3 (.pv (.sl .str) :: pI :: dz 31 []), [(3, false, [.pv (.sl .str), .pv Y14])]⟩
def jrT : Sh := ⟨.dead :: .pv Y2 :: pS :: .box 3 0 :: dz 3 (.pv (.sl .str) :: pI :: .own 600009 Y15 151 true :: pI :: dz 29 []), [(3, false, [.pv (.sl .str), .pv Y14])]⟩
def s_l7Terms_m (N : Nat) (r : List Z0) (u : List Z3) (A : List Z2) (B : List UInt8) : Option ((List Z0)) :=
 (iter (fun x (c, o, j, b, p, q) => bif decide (b < (c.length : Int)) then oB (idx c b) fun h => (oB (s_l6Field_m N h.1 h.2.1 h.2.2 o) fun w => oB (ja5 N p q w) fun v => iter (fun y (m, i, k, f, d, a, l, n) => bif decide (a < (d.length : Int)) then oB (idx d a) fun z => (oB (s_l7Put_m N k z.1) fun t => if fits (a + 1) then y (m, i, t, f, d, (a + 1), l, n) else none) else if fits (f + 1) then x (m, i, k, (f + 1), l, n) else none) N (c, o, j, b, v, (0 : Int), p, q)) else some j) N (A, B, ([] : List Z0), (0 : Int), r, u))
theorem jqQ (N : Nat) : mK 145 ⟨⟨[.agg [.pv (.sl .str), .pv Y14], .pv Y2, pS], []⟩, ⟨[.pv (.sl .str)], []⟩, c4A (s_l7Terms_m N)⟩ :=
 mO (fC (jhA N) (fC (jiO N) (fC (jgt N) ja))) Tryz.func145 rfl N (.seq .no (.seq .no (.seq (.seq .no (.block (.loop jn9 (.seq .no (.seq (.block (.seq .no (.seq .no (.block (.loop jrT .no))))) .no))))) .no))) _
def jnY : Sh := ⟨dz 3 (pS :: dz 5 (.own 600009 tI 3 true :: .own 600010 Y15 151 true :: pI :: dz 28 [])), []⟩
def s_l7Post_m (N : Nat) (h : List Z0) (i : List Z3) (o : Int) (j : Z11) (n : Z6) (q : List UInt8) (k : List UInt8) : Option ((List Int)) :=
 (oB (s_l6Field_m N o j n q) fun r => oB (ja5 N h i r) fun m => iter (fun e (d, c, b, a) => bif decide (a < (b.length : Int)) then oB (idx b a) fun l => (bif decide (l.1 = d) then oB (idx b a) fun f => (if room c.length ([f.2] : List Int).length 8 then if fits (a + 1) then e (d, (c ++ ([f.2] : List Int)), b, (a + 1)) else none else none) else if fits (a + 1) then e (d, c, b, (a + 1)) else none) else some c) N (k, ([] : List Int), m, (0 : Int)))
theorem js6 (N : Nat) : mK 212 ⟨⟨[.agg [.pv (.sl .str), .pv Y14], .agg [pI, .pv Y17, .pv Y13], pS, pS], []⟩, ⟨[.own 1 tI 3 true], []⟩, c7A (s_l7Post_m N)⟩ :=
 mO (fC (jhA N) (fC (jiO N) ja)) Tryz.func212 rfl N (.seq .no (.seq .no (.seq .no (.seq (.seq .no (.block (.loop jnY .no))) .no)))) _
def jkw : Sh := ⟨.dead :: .pv Y2 :: pS :: pS :: .box 4 0 :: dz 3 (.box 8 0 :: .box 9 0 :: pI :: dz 34 []), [(4, false, [.pv (.sl .str), .pv Y14]), (8, false, [pS, pS, .nils]), (9, false, [pS, pS, .own 700902 Y12 239 true])]⟩
def s_l7Entry_m (N : Nat) (t : List Z0) (u : List Z3) (w : List Z2) (r : List UInt8) (o : List UInt8) : Option Z1 :=
 (iter (fun p (b, h, j, a, i, k, n, m, d, e, c) => bif decide (a < (b.length : Int)) then oB (idx b a) fun f => (oB (s_l7Post_m N i k f.1 f.2.1 f.2.2 h j) fun l => bif decide ((0 : Int) < (l.length : Int)) then oB (idx b a) fun q => (if room c.length ([(q.1, l)] : Z4).length 32 then if fits (a + 1) then p (b, h, j, (a + 1), i, k, n, m, d, e, (c ++ ([(q.1, l)] : Z4))) else none else none) else if fits (a + 1) then p (b, h, j, (a + 1), i, k, n, m, d, e, c) else none) else some (d, e, c)) N (w, r, o, (0 : Int), t, u, ([] : List UInt8), ([] : List UInt8), r, o, ([] : Z4)))
theorem jtr (N : Nat) : mK 146 ⟨⟨[.agg [.pv (.sl .str), .pv Y14], .pv Y2, pS, pS], []⟩, ⟨[.agg [pS, pS, .own 1 Y12 239 true]], []⟩, c5A (s_l7Entry_m N)⟩ :=
 mO (fC (js6 N) ja) Tryz.func146 rfl N (.seq .no (.seq .no (.seq (.seq .no (.block (.loop jkw .no))) .no))) _
def s_l7CopyDoc_m (N : Nat) (c : Int) (b : Z11) (a : Z6) : Option Z2 :=
 (if room ([] : Z11).length b.length 32 then if room ([] : Z6).length a.length 24 then some (c, (([] : Z11) ++ b), (([] : Z6) ++ a)) else none else none)
theorem jtC (N : Nat) : mK 147 ⟨⟨[.agg [pI, .pv Y17, .pv Y13]], []⟩, ⟨[.agg [pI, .own 1 Y18 143 true, .own 2 Y15 145 true]], []⟩, c3A (s_l7CopyDoc_m N)⟩ :=
 mO ja Tryz.func147 rfl N .no _
def jn8 : Sh := ⟨.dead :: .pv Y2 :: .box 2 0 :: .dead :: .box 4 0 :: .box 5 0 :: .pv (.sl .str) :: pI :: dz 58 [], [(2, false, [.pv (.sl .str), .pv Y14]), (4, false, [.nils, .nils]), (5, false, [.nils, .own 700501 Y5 156 true])]⟩
def jpr : Sh := ⟨.dead :: .pv Y2 :: .box 2 0 :: .dead :: .box 4 0 :: .box 5 0 :: .pv (.sl .str) :: pI :: .pv (.sl .str) :: pI :: dz 56 [], [(2, false, [.pv (.sl .str), .pv Y14]), (4, false, [.nils, .nils]), (5, false, [.nils, .own 700501 Y5 156 true])]⟩
def jn0 : Sh := ⟨.dead :: .pv Y2 :: .dead :: .dead :: .box 4 0 :: .box 5 0 :: dz 4 (pI :: dz 55 []), [(4, false, [.nils, .nils]), (5, false, [.own 700500 Y3 44 true, .own 700501 Y5 156 true])]⟩
def s_l7Of_m (N : Nat) (A : List Z0) (B : List Z3) (v : List Z2) : Option ((List Z2) × (List Z1)) :=
 (oB (s_l7Names_m N v) fun K => iter (fun E (m, e, l, x, y, w) => bif decide (l < (e.length : Int)) then oB (idx e l) fun C => (oB (s_l7Terms_m N x y m C) fun D => iter (fun G (k, i, d, o, c, j, n, f) => bif decide (c < (o.length : Int)) then oB (idx i d) fun H => (oB (idx o c) fun z => oB (s_l7Entry_m N j n k H z) fun r => if room f.length ([r] : List Z1).length 56 then if fits (c + 1) then G (k, i, d, o, (c + 1), j, n, (f ++ ([r] : List Z1))) else none else none) else if fits (d + 1) then E (k, i, (d + 1), j, n, f) else none) N (m, e, l, D, (0 : Int), x, y, w)) else iter (fun I (h, b, q, t) => bif decide (b < (h.length : Int)) then oB (idx h b) fun p => (oB (s_l7CopyDoc_m N p.1 p.2.1 p.2.2) fun u => if room q.length ([u] : List Z2).length 56 then if fits (b + 1) then I (h, (b + 1), (q ++ ([u] : List Z2)), t) else none else none) else some (q, t)) N (m, (0 : Int), ([] : List Z2), w)) N (v, K, (0 : Int), A, B, ([] : List Z1)))
theorem jmU (N : Nat) : mK 68 ⟨⟨[.agg [.pv (.sl .str), .pv Y14], .pv Y2], []⟩, ⟨[.agg [.own 1 Y3 44 true, .own 2 Y5 156 true]], []⟩, c3A (s_l7Of_m N)⟩ :=
 mO (fC (jlz N) (fC (jqQ N) (fC (jtr N) (fC (jtC N) ja)))) Tryz.func68 rfl N (.seq .no (.seq .no (.seq .no (.seq (.seq .no (.block (.loop jn8 (.seq .no (.seq (.block (.seq .no (.seq .no (.block (.loop jpr .no))))) .no))))) (.seq (.seq .no (.block (.loop jn0 .no))) .no))))) _
def jyC (N : Nat) (a : List Z0) (d : List Z3) (c : List UInt8) : Option (Z0) :=
 (oB (jcw N a d) fun h => bif !h then some ([] : List UInt8) else oB (jT N c) fun f => bif !f then some ([] : List UInt8) else oB (ja5 N a d c) fun b => bif decide ((b.length : Int) = 0) then some ([] : List UInt8) else oB (idx b 0) fun e => some e.1)
theorem jCy (N : Nat) : mK 149 ⟨⟨[.agg [.pv (.sl .str), .pv Y14], pS], []⟩, ⟨[pS], []⟩, c3A (jyC N)⟩ :=
 mO (fC (jtf N) (fC (jgp N) (fC (jiO N) ja))) Tryz.func149 rfl N .no _
def jtm : Sh := ⟨.dead :: pS :: pS :: .box 3 0 :: dz 3 (pI :: dz 31 []), [(3, false, [.pv Y2, .pv Y4])]⟩
def s_l7Posts_m (N : Nat) (k : List Z2) (l : List Z1) (m : List UInt8) (n : List UInt8) : Option (Z17) :=
 (iter (fun f (c, d, a, e, b) => bif decide (a < (b.length : Int)) then oB (idx b a) fun o => (bif decide (o.1 = c) then oB (idx b a) fun j => (bif decide (j.2.1 = d) then oB (idx b a) fun h => (some h.2.2) else if fits (a + 1) then f (c, d, (a + 1), e, b) else none) else if fits (a + 1) then f (c, d, (a + 1), e, b) else none) else some ([] : Z4)) N (m, n, (0 : Int), k, l))
theorem jh6 (N : Nat) : mK 217 ⟨⟨[.agg [.pv Y2, .pv Y4], pS, pS], []⟩, ⟨[.pv Y11], []⟩, c4A (s_l7Posts_m N)⟩ :=
 mO ja Tryz.func217 rfl N (.seq .no (.seq (.seq .no (.block (.loop jtm .no))) .no)) _
def jst : Sh := ⟨dz 3 (pI :: dz 5 (.pv Y11 :: pI :: dz 22 [])), []⟩
def s_l12At_m (N : Nat) (h : List Z2) (i : List Z1) (k : List UInt8) (l : List UInt8) (d : Int) : Option ((List Int)) :=
 (oB (s_l7Posts_m N h i k l) fun j => iter (fun n (c, b, a) => bif decide (a < (b.length : Int)) then oB (idx b a) fun m => (bif decide (m.1 = c) then oB (idx b a) fun f => (some f.2) else if fits (a + 1) then n (c, b, (a + 1)) else none) else some ([] : List Int)) N (d, j, (0 : Int)))
theorem jn1 (N : Nat) : mK 213 ⟨⟨[.agg [.pv Y2, .pv Y4], pS, pS, pI], []⟩, ⟨[.pv Y19], []⟩, c5A (s_l12At_m N)⟩ :=
 mO (fC (jh6 N) ja) Tryz.func213 rfl N (.seq .no (.seq .no (.seq (.seq .no (.block (.loop jst .no))) .no))) _
def jqS : Sh := ⟨.dead :: pS :: pI :: .box 3 0 :: dz 3 (pI :: pI :: dz 55 []), [(3, false, [.pv Y2, .pv Y4])]⟩
def jm7 : Sh := ⟨.dead :: pS :: pI :: .box 3 0 :: dz 3 (pI :: pI :: pI :: dz 54 []), [(3, false, [.pv Y2, .pv Y4])]⟩
def s_l7Long_m (N : Nat) (w : List Z2) (r : List Z1) (z : List UInt8) (q : Int) : Z10 :=
 (iter (fun n (y, t, l, m, A, k) => bif decide (m < (k.length : Int)) then iter (fun o (d, f, e, a, c, h, b) => oB (idx b a) fun B => bif decide (c < (B.2.2.length : Int)) then oB (idx b a) fun u => (bif decide (u.1 = d) then oB (idx b a) fun p => (oB (idx p.2.2 c) fun x => bif decide (x.1 = f) then oB (idx b a) fun v => (oB (idx v.2.2 c) fun j => if fits (e + (j.2.length : Int)) then if fits (c + 1) then o (d, f, (e + (j.2.length : Int)), a, (c + 1), h, b) else none else none) else if fits (c + 1) then o (d, f, e, a, (c + 1), h, b) else none) else if fits (a + 1) then n (d, f, e, (a + 1), h, b) else none) else if fits (a + 1) then n (d, f, e, (a + 1), h, b) else none) N (y, t, l, m, (0 : Int), A, k) else some l) N (z, q, (0 : Int), (0 : Int), w, r))
theorem jrY (N : Nat) : mK 215 ⟨⟨[.agg [.pv Y2, .pv Y4], pS, pI], []⟩, ⟨[pI], []⟩, c4A (s_l7Long_m N)⟩ :=
 mO ja Tryz.func215 rfl N (.seq .no (.seq .no (.seq (.seq .no (.block (.loop jqS (.seq .no (.seq (.block (.seq .no (.block (.loop jm7 .no)))) .no))))) .no))) _
def jsB : Sh := ⟨.dead :: pS :: .box 2 0 :: .dead :: .dead :: pI :: pI :: dz 43 [], [(2, false, [.pv Y2, .pv Y4])]⟩
def jnl : Sh := ⟨.dead :: pS :: .box 2 0 :: .dead :: .dead :: pI :: pI :: pI :: dz 42 [], [(2, false, [.pv Y2, .pv Y4])]⟩
def s_l12Total_m (N : Nat) (r : List Z2) (o : List Z1) (u : List UInt8) : Z10 :=
 (iter (fun l (t, j, k, v, i) => bif decide (k < (i.length : Int)) then iter (fun p (c, d, a, e, f, b) => oB (idx b a) fun w => bif decide (e < (w.2.2.length : Int)) then oB (idx b a) fun q => (bif decide (q.1 = c) then oB (idx b a) fun n => (oB (idx n.2.2 e) fun m => if fits (d + (m.2.length : Int)) then if fits (e + 1) then p (c, (d + (m.2.length : Int)), a, (e + 1), f, b) else none else none) else if fits (a + 1) then l (c, d, (a + 1), f, b) else none) else if fits (a + 1) then l (c, d, (a + 1), f, b) else none) N (t, j, k, (0 : Int), v, i) else some j) N (u, (0 : Int), (0 : Int), r, o))
theorem jn2 (N : Nat) : mK 216 ⟨⟨[.agg [.pv Y2, .pv Y4], pS], []⟩, ⟨[pI], []⟩, c3A (s_l12Total_m N)⟩ :=
 mO ja Tryz.func216 rfl N (.seq .no (.seq .no (.seq (.seq .no (.block (.loop jsB (.seq .no (.seq (.block (.seq .no (.block (.loop jnl .no)))) .no))))) .no))) _
def jsx : Sh := ⟨pI :: pI :: dz 3 (pI :: dz 13 []), []⟩
def jbz (N : Nat) (f : Int) (e : Int) : Z10 :=
 (iter (fun h (a, c, b) => bif decide ((0 : Int) < a) then if fits (a * 2) then bif decide ((a * 2) ≤ c) then if fits (a * 2) then if fits (b + 1) then h ((a * 2), c, (b + 1)) else none else none else (some b) else none else some b) N (f, e, (0 : Int)))
theorem jkd (N : Nat) : mK 275 ⟨⟨[pI, pI], []⟩, ⟨[pI], []⟩, c2A (jbz N)⟩ :=
 mO ja Tryz.func275 rfl N (.seq .no (.seq .no (.seq (.block (.loop jsx .no)) .no))) _
def jkC : Sh := ⟨pI :: pI :: dz 15 [], []⟩
def jaY (N : Nat) : (D : Nat) → Int → Int → Z10
 | 0, _, _ => none
 | D + 1, a, b =>
 meet (fun (g : Int × Int) =>
 match g with
 | (a2, b2) =>
 bif decide (b2 = 0) then
 some a2
 else
 if b2 ≠ 0 then
 oB (jaY N D b2 (a2.tmod b2)) fun r =>
 (some r)
 else none) fun J =>
 bif decide (a < 0) then
 if fits (0 - a) then J ((0 - a), b) else none
 else
 J (a, b)
def jcQ (N D : Nat) : Model := ⟨⟨[pI, pI], []⟩, ⟨[pI], []⟩, c2A (jaY N D)⟩
theorem jlI (N D : Nat) (ih : mK 321 (jcQ N D)) : mK 321 (jcQ N (D + 1)) :=
 mO (fC ih ja) Tryz.func321 rfl N (.seq .no (.meet jkC .no .no)) (jcQ N (D + 1))
theorem jeF (N : Nat) : ∀ D, mK 321 (jcQ N D)
 | 0 => modelOk_none ⟨_, Tryz.func321, by decide, by kernel_rfl⟩ _ (fun a => rfl)
 | D + 1 => jlI N D (jeF N D)
def jlg : Sh := ⟨pI :: pI :: .dead :: .dead :: .box 4 0 :: dz 17 [], [(4, false, [pI, pI])]⟩
def jcf (N : Nat) (d : Int) (b : Int) : Option (Int × Int) :=
 (meet (fun (h : Int × Int × Int × Int) => match h with | (e, c, j, i) => oB (jaY N N e c) fun a => if a ≠ 0 then if fits (e.tdiv a) then if a ≠ 0 then if fits (c.tdiv a) then some ((e.tdiv a), (c.tdiv a)) else none else none else none else none) fun f => bif decide (b < 0) then if fits (0 - d) then if fits (0 - b) then f ((0 - d), (0 - b), 0, 0) else none else none else f (d, b, 0, 0))
theorem jn4 (N : Nat) : mK 274 ⟨⟨[pI, pI], []⟩, ⟨[.agg [pI, pI]], []⟩, c2A (jcf N)⟩ :=
 mO (fC (jeF N N) ja) Tryz.func274 rfl N (.seq .no (.meet jlg .no .no)) _
def jqT : Sh := ⟨pI :: .dead :: .dead :: pI :: pI :: dz 5 (.box 10 0 :: pI :: dz 21 []), [(10, false, [pI, pI])]⟩
def s_l12Term_m (N : Nat) (k : Int) (d : Int) (c : Int) (a : Int) (i : Int) : Option (Int × Int) :=
 (meet (fun (l : Int × Int × Int × Int × Int × Int) => match l with | (b, m, n, h, p, o) => oB (jbz N n m) fun e => if fits (1 + e) then if fits ((1 + e) * 22) then if fits (((1 + e) * 22) * b) then if fits (10 * b) then if fits ((10 * b) + 3) then if fits (((10 * b) + 3) + h) then oB (jcf N (((1 + e) * 22) * b) (((10 * b) + 3) + h)) fun j => (some (j.1, j.2)) else none else none else none else none else none else none) fun f => bif decide ((0 : Int) < c) then if fits (d * a) then if fits ((d * a) * 9) then if c ≠ 0 then if fits (((d * a) * 9).tdiv c) then f (k, a, i, (((d * a) * 9).tdiv c), 0, 0) else none else none else none else none else f (k, a, i, 1, 0, 0))
theorem jtF (N : Nat) : mK 214 ⟨⟨[pI, pI, pI, pI, pI], []⟩, ⟨[.agg [pI, pI]], []⟩, c5A (s_l12Term_m N)⟩ :=
 mO (fC (jkd N) (fC (jn4 N) ja)) Tryz.func214 rfl N (.seq .no (.seq .no (.meet jqT .no .no))) _
def s_l12Points_m (N : Nat) (b : List Z2) (c : List Z1) (d : List UInt8) (f : List UInt8) (e : Int) : Z10 :=
 (oB (s_l12At_m N b c d f e) fun h => bif decide ((h.length : Int) = 0) then some 0 else oB (s_l7Long_m N b c d e) fun k => oB (s_l12Total_m N b c d) fun j => oB (s_l7Posts_m N b c d f) fun i => oB (s_l12Term_m N (h.length : Int) k j (b.length : Int) (i.length : Int)) fun a => if fits (a.1 * 1000) then if a.2 ≠ 0 then if fits ((a.1 * 1000).tdiv a.2) then some ((a.1 * 1000).tdiv a.2) else none else none else none)
theorem jrZ (N : Nat) : mK 148 ⟨⟨[.agg [.pv Y2, .pv Y4], pS, pS, pI], []⟩, ⟨[pI], []⟩, c5A (s_l12Points_m N)⟩ :=
 mO (fC (jn1 N) (fC (jrY N) (fC (jn2 N) (fC (jh6 N) (fC (jtF N) ja))))) Tryz.func148 rfl N .no _
def jAu : Sh := ⟨.pv (.sl .str) :: pS :: dz 3 (pS :: pI :: dz 18 []), []⟩
def jxS (N : Nat) (n : List Z0) (m : List UInt8) : Option (Z0) :=
 (iter (fun o (e, b, a, c) => bif decide (c < (e.length : Int)) then meet (fun (d : (List Z0) × Z0 × Z0 × Int) => match d with | (j, l, i, f) => oB (idx j f) fun k => if i.length + k.length ≤ 9223372036854775807 then if fits (f + 1) then o (j, l, (i ++ k), (f + 1)) else none else none) fun h => (bif decide ((0 : Int) < c) then if a.length + b.length ≤ 9223372036854775807 then h (e, b, (a ++ b), c) else none else h (e, b, a, c)) else some a) N (n, m, ([] : List UInt8), (0 : Int)))
theorem jAy (N : Nat) : mK 220 ⟨⟨[.pv (.sl .str), pS], []⟩, ⟨[pS], []⟩, c2A (jxS N)⟩ :=
 mO ja Tryz.func220 rfl N (.seq .no (.seq .no (.seq (.seq .no (.block (.loop jAu (.seq .no (.seq (.block (.meet jAu .no .no)) .no))))) .no))) _
def jB2 : Sh := ⟨dz 3 (pI :: .dead :: .box 5 0 :: .box 6 0 :: .dead :: .dead :: .own 600009 Y19 66 true :: .own 600010 Y15 151 true :: pI :: dz 65 []), [(5, false, [.pv Y2, .pv Y4]), (6, false, [pI, pS, .pv (.sl .str), pI, pI, .pv (.sl .q)])]⟩
def jCf : Sh := ⟨dz 3 (pI :: .dead :: .box 5 0 :: .box 6 0 :: .dead :: .dead :: .own 600009 Y19 66 true :: .own 600010 Y15 151 true :: pI :: pI :: .pv Y19 :: .own 600014 tI 3 true :: pI :: dz 61 []), [(5, false, [.pv Y2, .pv Y4]), (6, false, [pI, pS, .pv (.sl .str), pI, pI, .pv (.sl .q)])]⟩
def jyf (N : Nat) (R : List Z0) (T : List Z3) (s : List Z2) (S : List Z1) (V : Int) (X : List UInt8) (y : List Z0) (aa : Int) (K : Int) (ad : List DQ) (G : Int) : Option (Z15) :=
 (oB (jxS N y ([32] : List UInt8)) fun W => oB (ja5 N R T W) fun U => iter (fun I (D, A, f, b, E, z, ab, B, L, af, P, O) => bif decide (b < (f.length : Int)) then oB (idx f b) fun x => (oB (idx f 0) fun k => if fits (x.2 - k.2) then if fits ((x.2 - k.2) - b) then oB (idx f b) fun Q => (oB (s_l12At_m N E z B Q.1 D) fun H => iter (fun C (l, h, q, i, c, e, d, a, p, t, u, o, w, j, m, r) => bif decide (a < (e.length : Int)) then oB (idx e a) fun ae => (bif decide (c ≤ ae) then oB (idx e a) fun v => (if fits (v - c) then if room d.length ([(v - c)] : List Int).length 8 then if fits (a + 1) then C (l, h, q, i, c, e, (d ++ ([(v - c)] : List Int)), (a + 1), p, t, u, o, w, j, m, r) else none else none else none) else if fits (a + 1) then C (l, h, q, i, c, e, d, (a + 1), p, t, u, o, w, j, m, r) else none) else if room h.length ([d] : List (List Int)).length 24 then if fits (i + 1) then I (l, (h ++ ([d] : List (List Int))), q, (i + 1), p, t, u, o, w, j, m, r) else none else none) N (D, A, f, b, ((x.2 - k.2) - b), H, ([] : List Int), (0 : Int), E, z, ab, B, L, af, P, O)) else none else none) else some A) N (G, ([] : List (List Int)), U, (0 : Int), s, S, V, X, y, aa, K, ad))
theorem jCm (N : Nat) : mK 218 ⟨⟨[.agg [.pv (.sl .str), .pv Y14], .agg [.pv Y2, .pv Y4], .agg [pI, pS, .pv (.sl .str), pI, pI, .pv (.sl .q)], pI], []⟩, ⟨[.own 1 Y19 66 true], []⟩, c11A (jyf N)⟩ :=
 mO (fC (jAy N) (fC (jiO N) (fC (jn1 N) ja))) Tryz.func218 rfl N (.seq .no (.seq .no (.seq .no (.seq (.seq .no (.block (.loop jB2 (.seq .no (.seq (.block (.seq .no (.seq .no (.seq .no (.seq (.seq .no (.block (.loop jCf .no))) .no))))) .no))))) .no)))) _
def jCI : Sh := ⟨.pv Y19 :: .dead :: .dead :: pI :: dz 31 [], []⟩
def jx3 (N : Nat) (h : List Int) : Z7 :=
 (iter (fun c (b, a) => bif decide (a < (b.length : Int)) then oB (idx b a) fun i => (oB (jJ N i 0 999999999) fun j => bif !j then some false else bif decide ((0 : Int) < a) then oB (idx b a) fun f => (if fits (a - 1) then oB (idx b (a - 1)) fun d => (bif decide (f ≤ d) then some false else if fits (a + 1) then c (b, (a + 1)) else none) else none) else if fits (a + 1) then c (b, (a + 1)) else none) else some (decide ((b.length : Int) ≤ 60))) N (h, (0 : Int)))
theorem jC9 (N : Nat) : mK 194 ⟨⟨[.pv Y19], []⟩, ⟨[pB], []⟩, c1A (jx3 N)⟩ :=
 mO (fC (jcL N) ja) Tryz.func194 rfl N (.seq .no (.seq (.seq .no (.block (.loop jCI .no))) .no)) _
def jBI : Sh := ⟨.pv (.sl Y19) :: pI :: pI :: pI :: pI :: dz 6 (pI :: dz 46 []), []⟩
def jxJ (N : Nat) : (D : Nat) → Z15 → Int → Int → Int → Int → Z7
 | 0, _, _, _, _, _ => none
 | D + 1, lists, k, last, start, slop =>
 bif decide (k = (lists.length : Int)) then
 if fits (last - start) then if fits ((lists.length : Int) - 1) then if fits ((last - start) - ((lists.length : Int) - 1)) then some (decide (((last - start) - ((lists.length : Int) - 1)) ≤ slop)) else none else none else none
 else
 iter (fun go (g : Z15 × Int × Int × Int × Int × Int) =>
 match g with
 | (lists2, k2, last2, start2, slop2, i) =>
 oB (idx lists2 k2) fun e =>
 bif decide (i < (e.length : Int)) then
 oB (idx lists2 k2) fun e2 =>
 (oB (idx e2 i) fun e3 =>
 bif decide (last2 < e3) then
 if fits (k2 + 1) then oB (idx lists2 k2) fun e4 =>
 (oB (idx e4 i) fun e5 =>
 oB (jxJ N D lists2 (k2 + 1) e5 start2 slop2) fun r =>
 bif r then
 some true
 else
 if fits (i + 1) then go (lists2, k2, last2, start2, slop2, (i + 1)) else none) else none
 else
 if fits (i + 1) then go (lists2, k2, last2, start2, slop2, (i + 1)) else none)
 else
 some false) N (lists, k, last, start, slop, 0)
def jyj (N D : Nat) : Model := ⟨⟨[.pv (.sl Y19), pI, pI, pI, pI], []⟩, ⟨[pB], []⟩, c5A (jxJ N D)⟩
theorem jD8 (N D : Nat) (ih : mK 276 (jyj N D)) : mK 276 (jyj N (D + 1)) :=
 mO (fC ih ja) Tryz.func276 rfl N (.seq .no (.seq .no (.seq (.seq .no (.block (.loop jBI .no))) .no))) (jyj N (D + 1))
theorem jzt (N : Nat) : ∀ D, mK 276 (jyj N D)
 | 0 => modelOk_none ⟨_, Tryz.func276, by decide, by kernel_rfl⟩ _ (fun a => rfl)
 | D + 1 => jD8 N D (jzt N D)
def jCF : Sh := ⟨.pv (.sl Y19) :: pI :: dz 3 (.own 600005 tI 3 true :: pI :: dz 56 []), []⟩
def jBd : Sh := ⟨.pv (.sl Y19) :: pI :: dz 3 (.own 600005 tI 3 true :: .dead :: pI :: dz 55 []), []⟩
def jyb (N : Nat) (o : List (List Int)) (p : Int) : Option ((List Int)) :=
 (iter (fun v (c, f, j, e) => bif decide (e < (c.length : Int)) then oB (idx c e) fun A => (oB (jx3 N A) fun u => bif !u then some ([] : List Int) else if fits (e + 1) then v (c, f, j, (e + 1)) else none) else oB (jJ N (c.length : Int) 1 6) fun t => bif !t then some ([] : List Int) else oB (jJ N f 0 5) fun n => bif !n then some ([] : List Int) else iter (fun l (b, h, d, a) => oB (idx b 0) fun x => bif decide (a < (x.length : Int)) then oB (idx b 0) fun m => (oB (idx m a) fun z => oB (idx b 0) fun y => oB (idx y a) fun q => oB (jxJ N N b 1 z q h) fun w => bif w then oB (idx b 0) fun r => (oB (idx r a) fun k => if room d.length ([k] : List Int).length 8 then if fits (a + 1) then l (b, h, (d ++ ([k] : List Int)), (a + 1)) else none else none) else if fits (a + 1) then l (b, h, d, (a + 1)) else none) else some d) N (c, f, j, (0 : Int))) N (o, p, ([] : List Int), (0 : Int)))
theorem jAW (N : Nat) : mK 219 ⟨⟨[.pv (.sl Y19), pI], []⟩, ⟨[.own 1 tI 3 true], []⟩, c2A (jyb N)⟩ :=
 mO (fC (jC9 N) (fC (jcL N) (fC (jzt N N) ja))) Tryz.func219 rfl N (.seq .no (.seq .no (.seq (.seq .no (.block (.loop jCF .no))) (.seq .no (.seq (.seq .no (.block (.loop jBd .no))) .no))))) _
def jCQ : Sh := ⟨dz 3 (pI :: .dead :: .box 5 0 :: .box 6 0 :: dz 3 (pI :: pI :: .own 600012 Y15 151 true :: pI :: dz 41 [])), [(5, false, [.pv Y2, .pv Y4]), (6, false, [pI, pS, .pv (.sl .str), pI, pI, .pv (.sl .q)])]⟩
def jCS : Sh := ⟨dz 3 (pI :: .box 4 0 :: .box 5 0 :: .box 6 0 :: dz 3 (pI :: dz 44 [])), [(4, false, [.pv (.sl .str), .pv Y14]), (5, false, [.pv Y2, .pv Y4]), (6, false, [pI, pS, .pv (.sl .str), pI, pI, .pv (.sl .q)])]⟩
def jx2 (N : Nat) (i : List Z0) (k : List Z3) (n : List Z2) (j : List Z1) (l : Int) (m : List UInt8) (e : List Z0) (c : Int) (h : Int) (o : List DQ) (d : Int) : Z10 :=
 (oB (jyf N i k n j l m e c h o d) fun A => bif decide ((A.length : Int) = 0) then some 0 else oB (jyb N A c) fun y => meet (fun (f : Int × Int × (List Z0) × (List Z3) × (List Z2) × (List Z1) × Int × Z0 × (List Z0) × Int × Int × (List DQ)) => match f with | (R, C, O, X, aa, D, T, E, u, W, P, L) => oB (jxS N u ([32] : List UInt8)) fun B => oB (ja5 N O X B) fun S => iter (fun I (v, q, a, p, b, x, z, U, w, V, H, K, Q) => bif decide (b < (p.length : Int)) then oB (idx p b) fun G => (oB (s_l12Points_m N x z w G.1 v) fun t => if fits (a + t) then if fits (b + 1) then I (v, q, (a + t), p, (b + 1), x, z, U, w, V, H, K, Q) else none else none) else if fits (a * q) then some (a * q) else none) N (R, C, (0 : Int), S, (0 : Int), aa, D, T, E, u, W, P, L)) fun r => bif decide ((3 : Int) < (y.length : Int)) then r (d, 3, i, k, n, j, l, m, e, c, h, o) else r (d, (y.length : Int), i, k, n, j, l, m, e, c, h, o))
theorem jAL (N : Nat) : mK 150 ⟨⟨[.agg [.pv (.sl .str), .pv Y14], .agg [.pv Y2, .pv Y4], .agg [pI, pS, .pv (.sl .str), pI, pI, .pv (.sl .q)], pI], []⟩, ⟨[pI], []⟩, c11A (jx2 N)⟩ :=
 mO (fC (jCm N) (fC (jAW N) (fC (jAy N) (fC (jiO N) (fC (jrZ N) ja))))) Tryz.func150 rfl N (.seq .no (.seq .no (.seq .no (.seq .no (.meet jCS .no (.seq .no (.seq .no (.seq (.seq .no (.block (.loop jCQ .no))) .no)))))))) _
def s_l5Min_m (N : Nat) (a : Int) (b : Int) : Z10 :=
 (bif decide (a < b) then some a else some b)
theorem jDQ (N : Nat) : mK 277 ⟨⟨[pI, pI], []⟩, ⟨[pI], []⟩, c2A (s_l5Min_m N)⟩ :=
 mO ja Tryz.func277 rfl N .no _
def jCw : Sh := ⟨pS :: pS :: dz 3 (.mtk 600005 tI 3 true :: pI :: dz 74 []), []⟩
def jDJ : Sh := ⟨pS :: pS :: dz 3 (.mtk 600005 tI 3 true :: .dead :: pI :: dz 73 []), []⟩
def jDM : Sh := ⟨pS :: pS :: dz 3 (.mtk 600005 tI 3 true :: .dead :: pI :: pI :: pI :: dz 71 []), []⟩
def jBZ : Sh := ⟨pS :: pS :: dz 3 (.mtk 600005 tI 3 true :: .dead :: pI :: .dead :: pI :: pI :: dz 70 []), []⟩
def s_l5Far_m (N : Nat) (L : List UInt8) (d : List UInt8) : Z10 :=
 (if fits ((d.length : Int) + 1) then if ((d.length : Int) + 1) = ((d.length : Int) + 1) ∧ 0 ≤ ((d.length : Int) + 1) ∧ ((d.length : Int) + 1) * 8 ≤ 140737488355328 ∧ ((d.length : Int) + 1) ≤ 140737488355328 then iter (fun z (t, p, m, c) => bif decide (c ≤ (p.length : Int)) then if 0 ≤ c ∧ c < (m.length : Int) then oB (m[c.toNat]?) fun S => (if fits (c + 1) then z (t, p, (m.set c.toNat c), (c + 1)) else none) else none else iter (fun A (u, n, f, l) => bif decide (l < (u.length : Int)) then if 0 ≤ (0 : Int) ∧ (0 : Int) < (f.length : Int) then oB (f[(0 : Int).toNat]?) fun B => (if fits (l + 1) then if 0 ≤ (0 : Int) ∧ (0 : Int) < (f.length : Int) then oB (f[(0 : Int).toNat]?) fun Q => (iter (fun O (j, i, o, h, q, k) => bif decide (k < (i.length : Int)) then meet (fun (e : Z18) => match e with | (w, C, b, x, a, y) => if fits (a + 1) then if 0 ≤ (a + 1) ∧ (a + 1) < (b.length : Int) then oB (b[(a + 1).toNat]?) fun P => (if fits (a + 1) then if 0 ≤ a ∧ a < (b.length : Int) then oB (b[a.toNat]?) fun K => (if fits (a + 1) then if 0 ≤ (a + 1) ∧ (a + 1) < (b.length : Int) then oB (b[(a + 1).toNat]?) fun E => (oB (s_l5Min_m N K E) fun v => if fits (v + 1) then oB (s_l5Min_m N y (v + 1)) fun H => (if 0 ≤ (a + 1) ∧ (a + 1) < (b.length : Int) then oB (b[(a + 1).toNat]?) fun R => (if fits (a + 1) then O (w, C, (b.set (a + 1).toNat H), x, P, (a + 1)) else none) else none) else none) else none else none) else none else none) else none else none) fun r => (oB (idx j h) fun D => oB (idx i k) fun G => bif !decide ((D.toNat : Int) = (G.toNat : Int)) then if fits (q + 1) then r (j, i, o, h, k, (q + 1)) else none else r (j, i, o, h, k, q)) else if fits (h + 1) then A (j, i, o, (h + 1)) else none) N (u, n, (f.set (0 : Int).toNat (l + 1)), l, B, (0 : Int))) else none else none) else none else if 0 ≤ (n.length : Int) ∧ (n.length : Int) < (f.length : Int) then oB (f[(n.length : Int).toNat]?) fun I => (some I) else none) N (t, p, m, (0 : Int))) N (L, d, (List.replicate ((d.length : Int) + 1).toNat 0), (0 : Int)) else none else none)
theorem jBt (N : Nat) : mK 221 ⟨⟨[pS, pS], []⟩, ⟨[pI], []⟩, c2A (s_l5Far_m N)⟩ :=
 mO (fC (jDQ N) ja) Tryz.func221 rfl N (.seq .no (.seq .no (.seq (.seq .no (.block (.loop jCw .no))) (.seq (.seq .no (.block (.loop jDJ (.seq .no (.seq (.block (.seq .no (.seq .no (.seq .no (.block (.loop jDM (.seq .no (.seq (.block (.seq .no (.meet jBZ .no .no))) .no)))))))) .no))))) .no)))) _ (wr := [14])
def jC5 : Sh := ⟨.dead :: .dead :: pI :: .box 3 0 :: .box 4 0 :: .dead :: .dead :: pI :: pI :: dz 49 [], [(3, false, [.pv Y2, .pv Y4]), (4, false, [pI, pS, .pv (.sl .str), pI, pI, .pv (.sl .q)])]⟩
def jx5 (N : Nat) (A : List Z2) (t : List Z1) (u : Int) (v : List UInt8) (r : List Z0) (w : Int) (z : Int) (B : List DQ) (q : Int) : Z10 :=
 (iter (fun l (h, f, a, e, b, m, c, j, i, o, n) => bif decide (a < (b.length : Int)) then oB (idx b a) fun p => (oB (idx j 0) fun y => oB (s_l5Far_m N p.2.1 y) fun d => bif !decide (p.1 = c) then if fits (a + 1) then l (h, f, (a + 1), e, b, m, c, j, i, o, n) else none else bif decide (i < d) then if fits (a + 1) then l (h, f, (a + 1), e, b, m, c, j, i, o, n) else none else oB (s_l12Points_m N e b c p.2.1 h) fun k => if fits (3 - d) then if fits (k * (3 - d)) then if 3 ≠ 0 then if fits ((k * (3 - d)).tdiv 3) then bif decide (f < ((k * (3 - d)).tdiv 3)) then if fits (a + 1) then l (h, ((k * (3 - d)).tdiv 3), (a + 1), e, b, m, c, j, i, o, n) else none else (if fits (a + 1) then l (h, f, (a + 1), e, b, m, c, j, i, o, n) else none) else none else none else none else none) else some f) N (q, (0 : Int), (0 : Int), A, t, u, v, r, w, z, B))
theorem jCb (N : Nat) : mK 151 ⟨⟨[.agg [.pv Y2, .pv Y4], .agg [pI, pS, .pv (.sl .str), pI, pI, .pv (.sl .q)], pI], []⟩, ⟨[pI], []⟩, c9A (jx5 N)⟩ :=
 mO (fC (jBt N) (fC (jrZ N) ja)) Tryz.func151 rfl N (.seq .no (.seq .no (.seq (.seq .no (.block (.loop jC5 .no))) .no))) _
def jxB (N : Nat) : (D : Nat) → Z0 → Z0 → Z7
 | 0, _, _ => none
 | D + 1, p, s =>
 bif decide (p = ([] : List UInt8)) then
 some (decide (s = ([] : List UInt8)))
 else
 oB (idx p 0) fun c =>
 bif decide ((c.toNat : Int) = 42) then
 oB (cut p 1 (p.length : Int)) fun y =>
 (oB (jxB N D y s) fun r =>
 bif r then
 some true
 else
 bif !decide (s = ([] : List UInt8)) then
 oB (cut s 1 (s.length : Int)) fun y2 =>
 (oB (jxB N D p y2) fun r2 =>
 some r2)
 else
 some false)
 else
 bif !decide (s = ([] : List UInt8)) then
 oB (idx p 0) fun c2 =>
 (bif decide ((c2.toNat : Int) = 63) then
 oB (cut p 1 (p.length : Int)) fun y3 =>
 (oB (cut s 1 (s.length : Int)) fun y4 =>
 oB (jxB N D y3 y4) fun r3 =>
 some r3)
 else
 oB (idx p 0) fun c3 =>
 oB (idx s 0) fun c4 =>
 bif decide ((c3.toNat : Int) = (c4.toNat : Int)) then
 oB (cut p 1 (p.length : Int)) fun y5 =>
 (oB (cut s 1 (s.length : Int)) fun y6 =>
 oB (jxB N D y5 y6) fun r4 =>
 some r4)
 else
 some false)
 else
 some false
def jyr (N D : Nat) : Model := ⟨⟨[pS, pS], []⟩, ⟨[pB], []⟩, c2A (jxB N D)⟩
theorem jDg (N D : Nat) (ih : mK 222 (jyr N D)) : mK 222 (jyr N (D + 1)) :=
 mO (fC ih ja) Tryz.func222 rfl N .no (jyr N (D + 1))
theorem jzM (N : Nat) : ∀ D, mK 222 (jyr N D)
 | 0 => modelOk_none ⟨_, Tryz.func222, by decide, by kernel_rfl⟩ _ (fun a => rfl)
 | D + 1 => jDg N D (jzM N D)
def jBi : Sh := ⟨.dead :: .dead :: pI :: .box 3 0 :: .box 4 0 :: .dead :: .dead :: pI :: dz 38 [], [(3, false, [.pv Y2, .pv Y4]), (4, false, [pI, pS, .pv (.sl .str), pI, pI, .pv (.sl .q)])]⟩
def jyd (N : Nat) (z : List Z2) (p : List Z1) (r : Int) (u : List UInt8) (o : List Z0) (v : Int) (y : Int) (A : List DQ) (n : Int) : Z7 :=
 (iter (fun h (e, a, d, b, i, c, f, j, l, k) => bif decide (a < (b.length : Int)) then oB (idx b a) fun m => (bif decide (m.1 = c) then oB (idx f 0) fun x => (oB (jxB N N x m.2.1) fun t => bif t then oB (s_l12At_m N d b c m.2.1 e) fun q => (bif decide ((0 : Int) < (q.length : Int)) then some true else if fits (a + 1) then h (e, (a + 1), d, b, i, c, f, j, l, k) else none) else if fits (a + 1) then h (e, (a + 1), d, b, i, c, f, j, l, k) else none) else if fits (a + 1) then h (e, (a + 1), d, b, i, c, f, j, l, k) else none) else some false) N (n, (0 : Int), z, p, r, u, o, v, y, A))
theorem jCi (N : Nat) : mK 153 ⟨⟨[.agg [.pv Y2, .pv Y4], .agg [pI, pS, .pv (.sl .str), pI, pI, .pv (.sl .q)], pI], []⟩, ⟨[pB], []⟩, c9A (jyd N)⟩ :=
 mO (fC (jzM N N) (fC (jn1 N) ja)) Tryz.func153 rfl N (.seq .no (.seq (.seq .no (.block (.loop jBi .no))) .no)) _
def jyV (N : Nat) (a : Bool) : Z10 :=
 (bif a then some 100 else some 0)
theorem jCo (N : Nat) : mK 152 ⟨⟨[pB], []⟩, ⟨[pI], []⟩, c1A (jyV N)⟩ :=
 mO ja Tryz.func152 rfl N .no _
def jA0 : Sh := ⟨.dead :: pI :: .box 2 0 :: .dead :: .box 4 0 :: pI :: dz 21 [], [(2, false, [.pv Y2, .pv Y4]), (4, false, [pI, .nils, .nils])]⟩
def jyv (N : Nat) (h : List Z2) (i : List Z1) (e : Int) : Option Z2 :=
 (iter (fun m (d, a, b, j, k) => bif decide (a < (b.length : Int)) then oB (idx b a) fun l => (bif decide (l.1 = d) then oB (idx b a) fun c => (some (c.1, c.2.1, c.2.2)) else if fits (a + 1) then m (d, (a + 1), b, j, k) else none) else some (0, ([] : Z11), ([] : Z6))) N (e, (0 : Int), h, i, (0 : Int)))
theorem jDn (N : Nat) : mK 155 ⟨⟨[.agg [.pv Y2, .pv Y4], pI], []⟩, ⟨[.agg [pI, .pv Y17, .pv Y13]], []⟩, c3A (jyv N)⟩ :=
 mO ja Tryz.func155 rfl N (.seq .no (.seq (.seq .no (.block (.loop jA0 .no))) .no)) _
def jym (N : Nat) (e : Int) (k : Z11) (d : Z6) (m : List UInt8) : Z10 :=
 (iter (fun n (c, a, i, j, b) => bif decide (a < (b.length : Int)) then oB (idx b a) fun l => (bif decide (l.1 = c) then oB (idx b a) fun h => (some h.2) else if fits (a + 1) then n (c, (a + 1), i, j, b) else none) else some (-1)) N (m, (0 : Int), e, k, d))
theorem jDS (N : Nat) : mK 154 ⟨⟨[.agg [pI, .pv Y17, .pv Y13], pS], []⟩, ⟨[pI], []⟩, c4A (jym N)⟩ :=
 mO ja Tryz.func154 rfl N (.seq .no (.seq (.seq .no (.block (.loop jl8 .no))) .no)) _
def jDX : Sh := ⟨dz 3 (pI :: .box 4 0 :: .box 5 0 :: .box 6 0 :: .dead :: .dead :: pI :: pI :: dz 111 []), [(4, false, [.pv (.sl .str), .pv Y14]), (5, false, [.pv Y2, .pv Y4]), (6, false, [pI, pS, .pv (.sl .str), pI, pI, .pv (.sl .q)])]⟩
def s_l12Score_m (N : Nat) : (D : Nat) → (List Z0) → (List Z3) → (List Z2) → (List Z1) → Int → Z0 → (List Z0) → Int → Int → (List DQ) → Int → Z10
 | 0, _, _, _, _, _, _, _, _, _, _, _ => none
 | D + 1, c, c2, s, s2, q, q2, q3, q4, q5, q6, id =>
 bif decide (q = 1) then
 some 100
 else
 bif decide (q = 2) then
 oB (idx q3 0) fun e =>
 (oB (jyC N c c2 e) fun r =>
 oB (s_l12Points_m N s s2 q2 r id) fun r2 =>
 some r2)
 else
 bif decide (q = 3) then
 oB (jx2 N c c2 s s2 q q2 q3 q4 q5 q6 id) fun r3 =>
 (some r3)
 else
 bif decide (q = 4) then
 oB (jx5 N s s2 q q2 q3 q4 q5 q6 id) fun r4 =>
 (some r4)
 else
 bif decide (q = 5) then
 oB (jyd N s s2 q q2 q3 q4 q5 q6 id) fun r5 =>
 (oB (jyV N r5) fun r6 =>
 some r6)
 else
 bif decide (q = 6) then
 oB (jyv N s s2 id) fun r7 =>
 (oB (jym N r7.1 r7.2.1 r7.2.2 q2) fun r8 =>
 oB (jJ N r8 q4 q5) fun r9 =>
 oB (jyV N r9) fun r10 =>
 some r10)
 else
 bif decide (q = 10) then
 oB (idx q6 0) fun e2 =>
 (oB (s_l12Score_m N D c c2 s s2 e2.kind e2.field e2.words e2.lo e2.hi e2.kids id) fun r11 =>
 if fits (q4 * r11) then some (q4 * r11) else none)
 else
 bif decide (q = 9) then
 oB (idx q6 1) fun e3 =>
 (oB (s_l12Score_m N D c c2 s s2 e3.kind e3.field e3.words e3.lo e3.hi e3.kids id) fun r12 =>
 bif decide ((0 : Int) < r12) then
 some 0
 else
 oB (idx q6 0) fun e4 =>
 oB (s_l12Score_m N D c c2 s s2 e4.kind e4.field e4.words e4.lo e4.hi e4.kids id) fun r13 =>
 some r13)
 else
 iter (fun go (g : Int × Int × Int × (List Z0) × (List Z3) × (List Z2) × (List Z1) × Int × Z0 × (List Z0) × Int × Int × (List DQ)) =>
 match g with
 | (id2, sum, i, c3, c4, s3, s4, q7, q8, q9, q10, q11, q12) =>
 bif decide (i < (q12.length : Int)) then
 oB (idx q12 i) fun e5 =>
 (oB (s_l12Score_m N D c3 c4 s3 s4 e5.kind e5.field e5.words e5.lo e5.hi e5.kids id2) fun r14 =>
 bif decide (r14 = 0) then
 bif decide (q7 = 7) then
 some 0
 else
 (if fits (sum + r14) then if fits (i + 1) then go (id2, (sum + r14), (i + 1), c3, c4, s3, s4, q7, q8, q9, q10, q11, q12) else none else none)
 else
 if fits (sum + r14) then if fits (i + 1) then go (id2, (sum + r14), (i + 1), c3, c4, s3, s4, q7, q8, q9, q10, q11, q12) else none else none)
 else
 some sum) N (id, 0, 0, c, c2, s, s2, q, q2, q3, q4, q5, q6)
def jyz (N D : Nat) : Model := ⟨⟨[.agg [.pv (.sl .str), .pv Y14], .agg [.pv Y2, .pv Y4], .agg [pI, pS, .pv (.sl .str), pI, pI, .pv (.sl .q)], pI], []⟩, ⟨[pI], []⟩, c11A (s_l12Score_m N D)⟩
theorem jBH (N D : Nat) (ih : mK 69 (jyz N D)) : mK 69 (jyz N (D + 1)) :=
 mO (fC ih (fC (jCy N) (fC (jrZ N) (fC (jAL N) (fC (jCb N) (fC (jCi N) (fC (jCo N) (fC (jDn N) (fC (jDS N) (fC (jcL N) ja)))))))))) Tryz.func69 rfl N (.seq .no (.seq .no (.seq .no (.seq (.seq .no (.block (.loop jDX .no))) .no)))) (jyz N (D + 1))
theorem jz7 (N : Nat) : ∀ D, mK 69 (jyz N D)
 | 0 => modelOk_none ⟨_, Tryz.func69, by decide, by kernel_rfl⟩ _ (fun a => rfl)
 | D + 1 => jBH N D (jz7 N D)
def jF6 : Sh := ⟨.pv (.sl (.pair .str .q)) :: dz 3 (.box 4 0 :: .box 5 0 :: .dead :: .own 600007 .str 9 true :: .box 8 0 :: pI :: dz 44 []), [(4, false, [.pv (.sl .str), .pv Y14]), (5, false, [pI, .pv Y17, .pv Y13]), (8, false, [.own 700800 Y3 44 true, .own 700801 Y5 156 true])]⟩
def s_AlertOf_m (N : Nat) (t : List (Z0 × DQ)) (e : List Z0) (h : List Z3) (j : Int) (i : Z11) (k : Z6) : Option ((List Z0)) :=
 (oB (jE4 N t) fun z => bif !z then some ([] : List Z0) else oB (jcw N e h) fun y => bif !y then some ([] : List Z0) else oB (jcb N j i k) fun w => bif !w then some ([] : List Z0) else oB (s_l7Of_m N e h ([(j, i, k)] : List Z2)) fun q => iter (fun p (c, d, a, n, o, l, u, v, m, f) => bif decide (a < (c.length : Int)) then oB (idx c a) fun b => (oB (s_l12Score_m N N n o m f b.2.kind b.2.field b.2.words b.2.lo b.2.hi b.2.kids l) fun x => bif decide ((0 : Int) < x) then oB (idx c a) fun r => (if room d.length ([r.1] : List Z0).length 16 then if fits (a + 1) then p (c, (d ++ ([r.1] : List Z0)), (a + 1), n, o, l, u, v, m, f) else none else none) else if fits (a + 1) then p (c, d, (a + 1), n, o, l, u, v, m, f) else none) else some d) N (t, ([] : List Z0), (0 : Int), e, h, j, i, k, q.1, q.2))
theorem jFZ (N : Nat) : mK 11 ⟨⟨[.pv (.sl (.pair .str .q)), .agg [.pv (.sl .str), .pv Y14], .agg [pI, .pv Y17, .pv Y13]], []⟩, ⟨[.own 1 .str 9 true], []⟩, c6A (s_AlertOf_m N)⟩ :=
 mO (fC (jFd N) (fC (jtf N) (fC (jpD N) (fC (jmU N) (fC (jz7 N N) ja))))) Tryz.func11 rfl N (.seq .no (.seq .no (.seq .no (.seq .no (.seq (.seq .no (.block (.loop jF6 .no))) .no))))) _
def jaw (N : Nat) (a : Int) : Z7 :=
 (bif decide ((97 : Int) ≤ a) then bif decide (a ≤ 122) then some true else (bif decide ((48 : Int) ≤ a) then some (decide (a ≤ 57)) else some false) else bif decide ((48 : Int) ≤ a) then some (decide (a ≤ 57)) else some false)
theorem jeK (N : Nat) : mK 167 ⟨⟨[.pv (.int .u8)], []⟩, ⟨[pB], []⟩, c1A (jaw N)⟩ :=
 mO ja Tryz.func167 rfl N .no _
def jm (N : Nat) (a : Int) (c : Int) (b : Int) : Z7 :=
 (bif decide (c ≤ a) then some (decide (a ≤ b)) else some false)
theorem jY (N : Nat) : mK 91 ⟨⟨[pI, pI, pI], []⟩, ⟨[pB], []⟩, c3A (jm N)⟩ :=
 mO ja Tryz.func91 rfl N .no _
def jqW : Sh := ⟨pS :: dz 4 (pI :: pI :: dz 11 []), []⟩
def jO (N : Nat) (c : List UInt8) : Z7 :=
 (iter (fun j (b, d, a) => bif decide (a < d) then oB (idx b a) fun e => (oB (jaw N (e.toNat : Int)) fun i => bif !i then some false else if fits (a + 1) then j (b, d, (a + 1)) else none) else oB (jm N (b.length : Int) 1 12) fun h => some h) N (c, (c.length : Int), (0 : Int)))
theorem jcM (N : Nat) : mK 89 ⟨⟨[pS], []⟩, ⟨[pB], []⟩, c1A (jO N)⟩ :=
 mO (fC (jeK N) (fC (jY N) ja)) Tryz.func89 rfl N (.seq .no (.seq (.seq .no (.block (.loop jqW .no))) .no)) _
def jDx : Sh := ⟨pS :: dz 4 (pI :: pI :: dz 23 []), []⟩
def jxV (N : Nat) (e : List UInt8) : Z7 :=
 (iter (fun d (b, c, a) => bif decide (a < c) then oB (idx b a) fun f => (oB (jaw N (f.toNat : Int)) fun l => bif !l then oB (idx b a) fun i => (bif !decide ((i.toNat : Int) = 42) then oB (idx b a) fun j => (bif !decide ((j.toNat : Int) = 63) then some false else if fits (a + 1) then d (b, c, (a + 1)) else none) else if fits (a + 1) then d (b, c, (a + 1)) else none) else if fits (a + 1) then d (b, c, (a + 1)) else none) else oB (jm N (b.length : Int) 1 12) fun k => some k) N (e, (e.length : Int), (0 : Int)))
theorem jz9 (N : Nat) : mK 190 ⟨⟨[pS], []⟩, ⟨[pB], []⟩, c1A (jxV N)⟩ :=
 mO (fC (jeK N) (fC (jY N) ja)) Tryz.func190 rfl N (.seq .no (.seq (.seq .no (.block (.loop jDx .no))) .no)) _
def jBs : Sh := ⟨.dead :: pI :: .box 2 0 :: dz 90 (.pv (.sl .str) :: pI :: pI :: dz 39 []), [(2, false, [pI, pS, .pv (.sl .str), pI, pI, .pv (.sl .q)])]⟩
def jC6 : Sh := ⟨.dead :: pI :: dz 121 (.pv (.sl .q) :: pI :: pI :: dz 9 []), []⟩
def jDY : Sh := ⟨.dead :: pI :: .box 2 0 :: dz 132 [], [(2, false, [pI, pS, .pv (.sl .str), pI, pI, .pv (.sl .q)])]⟩
def jzZ : Sh := ⟨.dead :: pI :: .box 2 0 :: .dead :: .dead :: .box 5 0 :: dz 129 [], [(2, false, [pI, pS, .pv (.sl .str), pI, pI, .pv (.sl .q)]), (5, false, [pB, pI, pI, pI, pI, pB, pI, pI])]⟩
def jxE (N : Nat) : (D : Nat) → Int → Z0 → (List Z0) → Int → Int → (List DQ) → Int → Z7
 | 0, _, _, _, _, _, _, _ => none
 | D + 1, q, q2, q3, q4, q5, q6, deep =>
 meet (fun (g : Z19) =>
 match g with
 | (deep2, q7, q8, q9, q10, q11, q12, x, x2, x3, x4, x5, x6, x7, x8) =>
 meet (fun (g : Z19) =>
 match g with
 | (deep3, q13, q14, q15, q16, q17, q18, x9, x10, x11, x12, x13, x14, x15, x16) =>
 meet (fun (g : Int × Int × Z0 × (List Z0) × Int × Int × (List DQ)) =>
 match g with
 | (deep4, q19, q20, q21, q22, q23, q24) =>
 iter (fun go (g : Int × (List Z0) × Int × Int × Int × Z0 × (List Z0) × Int × Int × (List DQ)) =>
 match g with
 | (deep5, t93, t94, t95, q25, q26, q27, q28, q29, q30) =>
 bif decide (t95 < t94) then
 oB (idx t93 t95) fun e =>
 (bif decide (q25 = 5) then
 oB (jxV N e) fun r6 =>
 (bif !r6 then
 some false
 else
 oB (jO N e) fun r7 =>
 bif r7 then
 some false
 else
 bif !decide (q25 = 5) then
 oB (jO N e) fun r8 =>
 (bif !r8 then
 some false
 else
 if fits (t95 + 1) then go (deep5, t93, t94, (t95 + 1), q25, q26, q27, q28, q29, q30) else none)
 else
 if fits (t95 + 1) then go (deep5, t93, t94, (t95 + 1), q25, q26, q27, q28, q29, q30) else none)
 else
 bif !decide (q25 = 5) then
 oB (jO N e) fun r9 =>
 (bif !r9 then
 some false
 else
 if fits (t95 + 1) then go (deep5, t93, t94, (t95 + 1), q25, q26, q27, q28, q29, q30) else none)
 else
 if fits (t95 + 1) then go (deep5, t93, t94, (t95 + 1), q25, q26, q27, q28, q29, q30) else none)
 else
 iter (fun go2 (g : Int × (List DQ) × Int × Int) =>
 match g with
 | (deep6, t123, t124, t125) =>
 bif decide (t125 < t124) then
 oB (idx t123 t125) fun e2 =>
 (if fits (deep6 - 1) then oB (jxE N D e2.kind e2.field e2.words e2.lo e2.hi e2.kids (deep6 - 1)) fun r10 =>
 (bif !r10 then
 some false
 else
 if fits (t125 + 1) then go2 (deep6, t123, t124, (t125 + 1)) else none) else none)
 else
 some true) N (deep5, q30, (q30.length : Int), 0)) N (deep4, q21, (q21.length : Int), 0, q19, q20, q21, q22, q23, q24)) fun J3 =>
 bif x14 then
 oB (jm N q17 q16 999999999) fun r5 =>
 (bif !r5 then
 some false
 else
 bif !x14 then
 bif !decide (q17 = 0) then
 some false
 else
 (J3 (deep3, q13, q14, q15, q16, q17, q18))
 else
 J3 (deep3, q13, q14, q15, q16, q17, q18))
 else
 bif !x14 then
 bif !decide (q17 = 0) then
 some false
 else
 (J3 (deep3, q13, q14, q15, q16, q17, q18))
 else
 J3 (deep3, q13, q14, q15, q16, q17, q18)) fun J2 =>
 oB (jm N (q9.length : Int) x2 x3) fun r2 =>
 bif !r2 then
 some false
 else
 oB (jm N (q12.length : Int) x7 x8) fun r3 =>
 bif !r3 then
 some false
 else
 oB (jm N q10 x4 x5) fun r4 =>
 bif !r4 then
 some false
 else
 J2 (deep2, q7, q8, q9, q10, q11, q12, x, x2, x3, x4, x5, x6, x7, x8)) fun J =>
 bif !((mget tI (.pair .bool (.pair tI (.pair tI (.pair tI (.pair tI (.pair .bool (.pair tI tI))))))) gm_shapes q).isSome) then
 some false
 else
 bif decide (deep < 1) then
 some false
 else
 bif !((((mget tI (.pair .bool (.pair tI (.pair tI (.pair tI (.pair tI (.pair .bool (.pair tI tI))))))) gm_shapes q).getD (false, (0, (0, (0, (0, (false, (0, 0)))))))).1) == (!decide (q2 = ([] : List UInt8)))) then
 some false
 else
 bif ((mget tI (.pair .bool (.pair tI (.pair tI (.pair tI (.pair tI (.pair .bool (.pair tI tI))))))) gm_shapes q).getD (false, (0, (0, (0, (0, (false, (0, 0)))))))).1 then
 oB (jO N q2) fun r =>
 (bif !r then
 some false
 else
 J (deep, q, q2, q3, q4, q5, q6, ((mget tI (.pair .bool (.pair tI (.pair tI (.pair tI (.pair tI (.pair .bool (.pair tI tI))))))) gm_shapes q).getD (false, (0, (0, (0, (0, (false, (0, 0)))))))).1, (((mget tI (.pair .bool (.pair tI (.pair tI (.pair tI (.pair tI (.pair .bool (.pair tI tI))))))) gm_shapes q).getD (false, (0, (0, (0, (0, (false, (0, 0)))))))).2).1, ((((mget tI (.pair .bool (.pair tI (.pair tI (.pair tI (.pair tI (.pair .bool (.pair tI tI))))))) gm_shapes q).getD (false, (0, (0, (0, (0, (false, (0, 0)))))))).2).2).1, (((((mget tI (.pair .bool (.pair tI (.pair tI (.pair tI (.pair tI (.pair .bool (.pair tI tI))))))) gm_shapes q).getD (false, (0, (0, (0, (0, (false, (0, 0)))))))).2).2).2).1, ((((((mget tI (.pair .bool (.pair tI (.pair tI (.pair tI (.pair tI (.pair .bool (.pair tI tI))))))) gm_shapes q).getD (false, (0, (0, (0, (0, (false, (0, 0)))))))).2).2).2).2).1, (((((((mget tI (.pair .bool (.pair tI (.pair tI (.pair tI (.pair tI (.pair .bool (.pair tI tI))))))) gm_shapes q).getD (false, (0, (0, (0, (0, (false, (0, 0)))))))).2).2).2).2).2).1, ((((((((mget tI (.pair .bool (.pair tI (.pair tI (.pair tI (.pair tI (.pair .bool (.pair tI tI))))))) gm_shapes q).getD (false, (0, (0, (0, (0, (false, (0, 0)))))))).2).2).2).2).2).2).1, ((((((((mget tI (.pair .bool (.pair tI (.pair tI (.pair tI (.pair tI (.pair .bool (.pair tI tI))))))) gm_shapes q).getD (false, (0, (0, (0, (0, (false, (0, 0)))))))).2).2).2).2).2).2).2))
 else
 J (deep, q, q2, q3, q4, q5, q6, ((mget tI (.pair .bool (.pair tI (.pair tI (.pair tI (.pair tI (.pair .bool (.pair tI tI))))))) gm_shapes q).getD (false, (0, (0, (0, (0, (false, (0, 0)))))))).1, (((mget tI (.pair .bool (.pair tI (.pair tI (.pair tI (.pair tI (.pair .bool (.pair tI tI))))))) gm_shapes q).getD (false, (0, (0, (0, (0, (false, (0, 0)))))))).2).1, ((((mget tI (.pair .bool (.pair tI (.pair tI (.pair tI (.pair tI (.pair .bool (.pair tI tI))))))) gm_shapes q).getD (false, (0, (0, (0, (0, (false, (0, 0)))))))).2).2).1, (((((mget tI (.pair .bool (.pair tI (.pair tI (.pair tI (.pair tI (.pair .bool (.pair tI tI))))))) gm_shapes q).getD (false, (0, (0, (0, (0, (false, (0, 0)))))))).2).2).2).1, ((((((mget tI (.pair .bool (.pair tI (.pair tI (.pair tI (.pair tI (.pair .bool (.pair tI tI))))))) gm_shapes q).getD (false, (0, (0, (0, (0, (false, (0, 0)))))))).2).2).2).2).1, (((((((mget tI (.pair .bool (.pair tI (.pair tI (.pair tI (.pair tI (.pair .bool (.pair tI tI))))))) gm_shapes q).getD (false, (0, (0, (0, (0, (false, (0, 0)))))))).2).2).2).2).2).1, ((((((((mget tI (.pair .bool (.pair tI (.pair tI (.pair tI (.pair tI (.pair .bool (.pair tI tI))))))) gm_shapes q).getD (false, (0, (0, (0, (0, (false, (0, 0)))))))).2).2).2).2).2).2).1, ((((((((mget tI (.pair .bool (.pair tI (.pair tI (.pair tI (.pair tI (.pair .bool (.pair tI tI))))))) gm_shapes q).getD (false, (0, (0, (0, (0, (false, (0, 0)))))))).2).2).2).2).2).2).2)
def jyl (N D : Nat) : Model := ⟨⟨[.agg [pI, pS, .pv (.sl .str), pI, pI, .pv (.sl .q)], pI], []⟩, ⟨[pB], []⟩, c7A (jxE N D)⟩
theorem jAF (N D : Nat) (ih : mK 119 (jyl N D)) : mK 119 (jyl N (D + 1)) :=
 mO (fC ih (fC (jcM N) (fC (jY N) (fC (jz9 N) ja)))) Tryz.func119 rfl N (.seq .no (.seq .no (.meet jzZ .no (.meet jzZ .no (.meet jDY .no (.seq (.seq .no (.block (.loop jBs .no))) (.seq (.seq .no (.block (.loop jC6 .no))) .no))))))) (jyl N (D + 1))
theorem jzh (N : Nat) : ∀ D, mK 119 (jyl N D)
 | 0 => modelOk_none ⟨_, Tryz.func119, by decide, by kernel_rfl⟩ _ (fun a => rfl)
 | D + 1 => jAF N D (jzh N D)
def i_QueryOk_m (N : Nat) (f : Int) (a : List UInt8) (c : List Z0) (b : Int) (d : Int) (e : List DQ) : Z7 :=
 (oB (jxE N N f a c b d e 4) fun h => some h)
theorem jCN (N : Nat) : mK 43 ⟨⟨[.agg [pI, pS, .pv (.sl .str), pI, pI, .pv (.sl .q)]], []⟩, ⟨[pB], []⟩, c6A (i_QueryOk_m N)⟩ :=
 mO (fC (jzh N N) ja) Tryz.func43 rfl N .no _
def jF0 : Sh := ⟨.pv (.sl (.pair .str .q)) :: dz 4 (.pv (.sl (.pair .str .q)) :: pI :: pI :: dz 33 []), []⟩
def jGU (N : Nat) (d : List (Z0 × DQ)) : Z7 :=
 (iter (fun h (c, f, e, a) => bif decide (a < e) then oB (idx f a) fun b => (oB (jO N b.1) fun l => bif !l then some false else oB (i_QueryOk_m N b.2.kind b.2.field b.2.words b.2.lo b.2.hi b.2.kids) fun k => bif !k then some false else bif decide ((0 : Int) < a) then if fits (a - 1) then oB (idx c (a - 1)) fun j => (bif !Op.bytesLess j.1 b.1 then some false else if fits (a + 1) then h (c, f, e, (a + 1)) else none) else none else if fits (a + 1) then h (c, f, e, (a + 1)) else none) else some (decide ((c.length : Int) ≤ 6))) N (d, d, (d.length : Int), (0 : Int)))
theorem jFt (N : Nat) : mK 27 ⟨⟨[.pv (.sl (.pair .str .q))], []⟩, ⟨[pB], []⟩, c1A (jGU N)⟩ :=
 mO (fC (jcM N) (fC (jCN N) ja)) Tryz.func27 rfl N (.seq .no (.seq (.seq .no (.block (.loop jF0 .no))) .no)) _
def jmc : Sh := ⟨.pv (.sl .str) :: dz 4 (.pv (.sl .str) :: pI :: pI :: dz 21 []), []⟩
def jb2 (N : Nat) (c : List Z0) : Z7 :=
 (iter (fun h (b, e, d, a) => bif decide (a < d) then oB (idx e a) fun f => (oB (jO N f) fun k => bif !k then some false else bif decide ((0 : Int) < a) then if fits (a - 1) then oB (idx b (a - 1)) fun j => (bif !Op.bytesLess j f then some false else if fits (a + 1) then h (b, e, d, (a + 1)) else none) else none else if fits (a + 1) then h (b, e, d, (a + 1)) else none) else some true) N (c, c, (c.length : Int), (0 : Int)))
theorem jtw (N : Nat) : mK 90 ⟨⟨[.pv (.sl .str)], []⟩, ⟨[pB], []⟩, c1A (jb2 N)⟩ :=
 mO (fC (jcM N) ja) Tryz.func90 rfl N (.seq .no (.seq (.seq .no (.block (.loop jmc .no))) .no)) _
def jdF (N : Nat) (a : List UInt8) (b : List UInt8) : Z7 :=
 (bif decide ((b.length : Int) ≤ (a.length : Int)) then if fits ((a.length : Int) - (b.length : Int)) then oB (cut a ((a.length : Int) - (b.length : Int)) (a.length : Int)) fun c => (some (decide (c = b))) else none else some false)
theorem jpU (N : Nat) : mK 233 ⟨⟨[pS, pS], []⟩, ⟨[pB], []⟩, c2A (jdF N)⟩ :=
 mO ja Tryz.func233 rfl N .no _
def jcN (N : Nat) (b : List UInt8) (c : List UInt8) : Z7 :=
 (oB (jdF N b c) fun a => some a)
theorem jsu (N : Nat) : mK 168 ⟨⟨[pS, pS], []⟩, ⟨[pB], []⟩, c2A (jcN N)⟩ :=
 mO (fC (jpU N) ja) Tryz.func168 rfl N .no _
def jod : Sh := ⟨pS :: .dead :: .dead :: pB :: dz 32 [], []⟩
def jnf : Sh := ⟨pS :: .dead :: .dead :: pB :: dz 6 (.own 600010 .str 9 true :: pI :: pI :: dz 23 []), []⟩
def jaB (N : Nat) (j : List UInt8) : Option (Z0) :=
 (oB (jO N j) fun n => bif !n then some ([] : List UInt8) else iter (fun l (k, m) => bif m then iter (fun i (a, f, h, e, b) => bif decide (b < e) then oB (idx h b) fun c => (oB (jcN N a c) fun o => bif o then if fits ((a.length : Int) - (c.length : Int)) then bif decide ((3 : Int) ≤ ((a.length : Int) - (c.length : Int))) then if fits ((a.length : Int) - (c.length : Int)) then oB (cut a 0 ((a.length : Int) - (c.length : Int))) fun p => (l (p, true)) else none else (if fits (b + 1) then i (a, f, h, e, (b + 1)) else none) else none else if fits (b + 1) then i (a, f, h, e, (b + 1)) else none) else l (a, f)) N (k, false, ([([105, 110, 103] : List UInt8), ([101, 100] : List UInt8), ([101, 115] : List UInt8), ([108, 121] : List UInt8), ([115] : List UInt8)] : List Z0), (([([105, 110, 103] : List UInt8), ([101, 100] : List UInt8), ([101, 115] : List UInt8), ([108, 121] : List UInt8), ([115] : List UInt8)] : List Z0).length : Int), (0 : Int)) else some k) N (j, true))
theorem jio (N : Nat) : mK 92 ⟨⟨[pS], []⟩, ⟨[pS], []⟩, c1A (jaB N)⟩ :=
 mO (fC (jcM N) (fC (jsu N) ja)) Tryz.func92 rfl N (.seq .no (.seq .no (.seq (.seq .no (.block (.loop jod (.seq .no (.block (.seq .no (.seq .no (.block (.loop jnf .no))))))))) .no))) _
def jkJ : Sh := ⟨.pv (.sl .str) :: pS :: dz 5 (pI :: pI :: dz 10 []), []⟩
def jdH (N : Nat) (b : List Z0) (h : List UInt8) : Z10 :=
 (iter (fun j (c, e, d, a) => bif decide (a < d) then oB (idx c a) fun i => (bif decide (e = i) then some a else if fits (a + 1) then j (c, e, d, (a + 1)) else none) else some (-1)) N (b, h, (b.length : Int), (0 : Int)))
theorem jkZ (N : Nat) : mK 169 ⟨⟨[.pv (.sl .str), pS], []⟩, ⟨[pI], []⟩, c2A (jdH N)⟩ :=
 mO ja Tryz.func169 rfl N (.seq .no (.seq (.seq .no (.block (.loop jkJ .no))) .no)) _
def jao (N : Nat) (b : List Z0) (a : List UInt8) : Z7 :=
 (oB (jdH N b a) fun c => some (decide ((0 : Int) ≤ c)))
theorem jh5 (N : Nat) : mK 93 ⟨⟨[.pv (.sl .str), pS], []⟩, ⟨[pB], []⟩, c2A (jao N)⟩ :=
 mO (fC (jkZ N) ja) Tryz.func93 rfl N .no _
def jmj : Sh := ⟨.dead :: .box 1 0 :: dz 22 (.pv Y14 :: pI :: pI :: dz 46 []), [(1, false, [.pv (.sl .str), .pv Y14])]⟩
def jrC : Sh := ⟨.dead :: .box 1 0 :: dz 22 (.pv Y14 :: pI :: pI :: dz 12 (pB :: dz 7 (pB :: .dead :: .dead :: .pv (.sl .str) :: pI :: pI :: dz 20 []))), [(1, false, [.pv (.sl .str), .pv Y14])]⟩
def jaj (N : Nat) (e : List Z0) (b : List Z3) : Z7 :=
 (bif decide ((6 : Int) < (e.length : Int)) then some false else oB (jb2 N e) fun E => bif !E then some false else bif decide ((4 : Int) < (b.length : Int)) then some false else iter (fun z (q, r, f, C, D) => bif decide (f < r) then oB (idx q f) fun a => (oB (jm N (a.1.length : Int) 1 3) fun y => bif !y then some false else oB (jO N a.2) fun k => bif !k then some false else oB (jaB N a.2) fun n => bif !decide (n = a.2) then some false else iter (fun A (m, t, i, x, B, l, o, d, h, p) => bif decide (d < o) then oB (idx l d) fun c => (oB (jO N c) fun w => bif !w then some false else oB (jaB N c) fun v => bif !decide (v = c) then some false else oB (jao N h c) fun u => bif u then some false else if fits (d + 1) then A (m, t, i, x, B, l, o, (d + 1), h, p) else none) else if fits (i + 1) then z (m, t, (i + 1), h, p) else none) N (q, r, f, (!k), (!decide (n = a.2)), a.1, (a.1.length : Int), (0 : Int), C, D)) else some true) N (b, (b.length : Int), (0 : Int), e, b))
theorem jdX (N : Nat) : mK 29 ⟨⟨[.agg [.pv (.sl .str), .pv Y14]], []⟩, ⟨[pB], []⟩, c2A (jaj N)⟩ :=
 mO (fC (jtw N) (fC (jY N) (fC (jcM N) (fC (jio N) (fC (jh5 N) ja))))) Tryz.func29 rfl N (.seq .no (.seq .no (.seq (.seq .no (.block (.loop jmj (.seq .no (.seq .no (.seq (.block (.seq .no (.seq .no (.seq .no (.block (.loop jrC .no)))))) .no)))))) .no))) _
def jtd : Sh := ⟨pS :: dz 4 (pI :: pI :: dz 16 []), []⟩
def jaF (N : Nat) (c : List UInt8) : Z7 :=
 (iter (fun i (b, d, a) => bif decide (a < d) then oB (idx b a) fun e => (bif decide ((e.toNat : Int) < 32) then some false else oB (idx b a) fun h => bif decide ((126 : Int) < (h.toNat : Int)) then some false else if fits (a + 1) then i (b, d, (a + 1)) else none) else some (decide ((b.length : Int) ≤ 160))) N (c, (c.length : Int), (0 : Int)))
theorem jdK (N : Nat) : mK 94 ⟨⟨[pS], []⟩, ⟨[pB], []⟩, c1A (jaF N)⟩ :=
 mO ja Tryz.func94 rfl N (.seq .no (.seq (.seq .no (.block (.loop jtd .no))) .no)) _
def jlC : Sh := ⟨.dead :: .box 1 0 :: dz 22 (.pv Y17 :: pI :: pI :: dz 66 []), [(1, false, [pI, .pv Y17, .pv Y13])]⟩
def jpt : Sh := ⟨.dead :: .box 1 0 :: dz 57 (.pv Y13 :: pI :: pI :: dz 31 []), [(1, false, [pI, .pv Y17, .pv Y13])]⟩
def jbx (N : Nat) (r : Int) (d : Z11) (q : Z6) : Z7 :=
 (oB (jm N r 1 9999) fun C => bif !C then some false else bif decide ((3 : Int) < (d.length : Int)) then some false else bif decide ((3 : Int) < (q.length : Int)) then some false else iter (fun p (n, o, a, j, e, c) => bif decide (a < o) then oB (idx n a) fun i => (oB (jO N i.1) fun y => bif !y then some false else oB (jaF N i.2) fun w => bif !w then some false else bif decide ((0 : Int) < a) then if fits (a - 1) then oB (idx e (a - 1)) fun A => (bif !Op.bytesLess A.1 i.1 then some false else if fits (a + 1) then p (n, o, (a + 1), j, e, c) else none) else none else if fits (a + 1) then p (n, o, (a + 1), j, e, c) else none) else iter (fun u (l, h, b, t, v, k) => bif decide (b < h) then oB (idx l b) fun f => (oB (jO N f.1) fun z => bif !z then some false else oB (jm N f.2 0 999999999) fun x => bif !x then some false else bif decide ((0 : Int) < b) then if fits (b - 1) then oB (idx k (b - 1)) fun B => (bif !Op.bytesLess B.1 f.1 then some false else if fits (b + 1) then u (l, h, (b + 1), t, v, k) else none) else none else if fits (b + 1) then u (l, h, (b + 1), t, v, k) else none) else some true) N (c, (c.length : Int), (0 : Int), j, e, c)) N (d, (d.length : Int), (0 : Int), r, d, q))
theorem jh0 (N : Nat) : mK 30 ⟨⟨[.agg [pI, .pv Y17, .pv Y13]], []⟩, ⟨[pB], []⟩, c3A (jbx N)⟩ :=
 mO (fC (jY N) (fC (jcM N) (fC (jdK N) ja))) Tryz.func30 rfl N (.seq .no (.seq .no (.seq (.seq .no (.block (.loop jlC .no))) (.seq (.seq .no (.block (.loop jpt .no))) .no)))) _
def jpj : Sh := ⟨.pv Y2 :: dz 4 (.pv Y2 :: pI :: pI :: dz 26 []), []⟩
def jbf (N : Nat) (d : List Z2) : Z7 :=
 (iter (fun h (b, f, e, a) => bif decide (a < e) then oB (idx f a) fun c => (oB (jbx N c.1 c.2.1 c.2.2) fun k => bif !k then some false else bif decide ((0 : Int) < a) then if fits (a - 1) then oB (idx b (a - 1)) fun j => (bif decide (c.1 ≤ j.1) then some false else if fits (a + 1) then h (b, f, e, (a + 1)) else none) else none else if fits (a + 1) then h (b, f, e, (a + 1)) else none) else some (decide ((b.length : Int) ≤ 16))) N (d, d, (d.length : Int), (0 : Int)))
theorem jjU (N : Nat) : mK 95 ⟨⟨[.pv Y2], []⟩, ⟨[pB], []⟩, c1A (jbf N)⟩ :=
 mO (fC (jh0 N) ja) Tryz.func95 rfl N (.seq .no (.seq (.seq .no (.block (.loop jpj .no))) .no)) _
def jbO (N : Nat) (c : Int) (b : Z11) (a : Z6) : Option Z2 :=
 (if room ([] : Z11).length b.length 32 then if room ([] : Z6).length a.length 24 then some (c, (([] : Z11) ++ b), (([] : Z6) ++ a)) else none else none)
theorem jrI (N : Nat) : mK 170 ⟨⟨[.agg [pI, .pv Y17, .pv Y13]], []⟩, ⟨[.agg [pI, .own 1 Y18 143 true, .own 2 Y15 145 true]], []⟩, c3A (jbO N)⟩ :=
 mO ja Tryz.func170 rfl N .no _
def joW : Sh := ⟨dz 3 (.own 600003 Y3 44 true :: dz 3 (.pv Y2 :: pI :: pI :: dz 10 [])), []⟩
def jbV (N : Nat) (d : List Z2) : Option ((List Z2)) :=
 (iter (fun j (b, f, h, a) => bif decide (a < h) then oB (idx f a) fun c => (oB (jbO N c.1 c.2.1 c.2.2) fun e => if room b.length ([e] : List Z2).length 56 then if fits (a + 1) then j ((b ++ ([e] : List Z2)), f, h, (a + 1)) else none else none) else some b) N (([] : List Z2), d, (d.length : Int), (0 : Int)))
theorem joC (N : Nat) : mK 96 ⟨⟨[.pv Y2], []⟩, ⟨[.own 1 Y3 44 true], []⟩, c1A (jbV N)⟩ :=
 mO (fC (jrI N) ja) Tryz.func96 rfl N (.seq .no (.seq .no (.seq (.seq .no (.block (.loop joW .no))) .no))) _
def jI (N : Nat) (a : Int) : Z10 :=
 (bif decide ((65 : Int) ≤ a) then bif decide (a ≤ 90) then some (IntKind.u8.wrap ((IntKind.u8.wrap (a + 97)) - 65)) else (some a) else some a)
theorem jmu (N : Nat) : mK 234 ⟨⟨[.pv (.int .u8)], []⟩, ⟨[.pv (.int .u8)], []⟩, c1A (jI N)⟩ :=
 mO ja Tryz.func234 rfl N .no _
def jpB : Sh := ⟨pS :: .dead :: .dead :: .own 600003 Y6 231 true :: pI :: dz 57 [], []⟩
def jo6 : Sh := ⟨pS :: .dead :: .dead :: .own 600003 Y6 231 true :: pI :: .box 5 0 :: .own 600006 (.int .u8) 5 true :: dz 55 [], [(5, false, [pS, pI, pI, pI])]⟩
def jct (N : Nat) (p : List UInt8) : Option ((List Z8)) :=
 (oB (jaF N p) fun x => bif !x then some ([] : List Z8) else iter (fun k (i, j, h) => bif decide (h < (i.length : Int)) then oB (idx i h) fun r => (oB (jI N (r.toNat : Int)) fun w => oB (jaw N w) fun t => bif !t then if fits (h + 1) then k (i, j, (h + 1)) else none else iter (fun o (c, e, a, b, q, f, d, n) => bif decide (a < (c.length : Int)) then oB (idx c a) fun u => (oB (jI N (u.toNat : Int)) fun y => oB (jaw N y) fun v => bif v then bif decide ((b.length : Int) < 12) then oB (idx c a) fun z => (oB (jI N (z.toNat : Int)) fun m => if room b.length ([m] : List Int).length 1 then if fits (a + 1) then o (c, e, (a + 1), (b ++ ([m] : List Int)), q, f, d, n) else none else none) else (if fits (a + 1) then o (c, e, (a + 1), b, q, f, d, n) else none) else if room e.length ([((bytesOf b), f, d, a)] : List Z8).length 40 then k (c, (e ++ ([((bytesOf b), f, d, a)] : List Z8)), a) else none) else if room e.length ([((bytesOf b), f, d, a)] : List Z8).length 40 then k (c, (e ++ ([((bytesOf b), f, d, a)] : List Z8)), a) else none) N (i, j, h, ([] : List Int), ([] : List UInt8), (j.length : Int), h, (0 : Int))) else some j) N (p, ([] : List Z8), (0 : Int)))
theorem jqc (N : Nat) : mK 171 ⟨⟨[pS], []⟩, ⟨[.own 1 Y6 231 true], []⟩, c1A (jct N)⟩ :=
 mO (fC (jdK N) (fC (jmu N) (fC (jeK N) ja))) Tryz.func171 rfl N (.seq .no (.seq .no (.seq .no (.seq (.seq .no (.block (.loop jpB (.seq .no (.block (.seq .no (.seq .no (.seq .no (.seq (.block (.loop jo6 .no)) .no))))))))) .no)))) _
def jty : Sh := ⟨.dead :: .pv Y13 :: pI :: .box 3 0 :: dz 3 (.pv (.opt Y16) :: dz 8 (pI :: pI :: dz 73 [])), [(3, false, [.pv (.sl .str), .pv Y14])]⟩
def jss : Sh := ⟨.dead :: .pv Y13 :: pI :: .box 3 0 :: dz 3 (.pv (.opt Y16) :: .dead :: .ptr Y16 :: pB :: dz 5 (pI :: pI :: dz 31 (pB :: dz 4 (.pv (.sl .str) :: pI :: pI :: dz 34 [])))), [(3, false, [.pv (.sl .str), .pv Y14])]⟩
def jbH (N : Nat) (c : List Z0) (c2 : List Z3) (terms : Z6) (at0 : Int) : Option ((Option Z3)) :=
 (iter (fun go (terms2, at02, best, t16, t17, c3, c4) => bif decide (t17 < t16) then oB (idx c4 t17) fun e => (if fits ((terms2.length : Int) - at02) then bif decide (((terms2.length : Int) - at02) < (e.1.length : Int)) then if fits (t17 + 1) then go (terms2, at02, best, t16, (t17 + 1), c3, c4) else none else (bif !(Option.isNone best) then oB best fun p => (bif decide ((e.1.length : Int) ≤ (p.1.length : Int)) then if fits (t17 + 1) then go (terms2, at02, best, t16, (t17 + 1), c3, c4) else none else iter (fun go2 (terms3, at03, best2, r, fits0, t162, t172, t49, t54, t55, t56, c5, c6) => bif decide (t56 < t55) then oB (idx t54 t56) fun e2 => (if fits (at03 + t56) then oB (idx terms3 (at03 + t56)) fun e3 => (bif fits0 then bif decide (e3.1 = e2) then oB (idx terms3 at03) fun e4 => (if fits (e4.2 + t56) then if fits (t56 + 1) then go2 (terms3, at03, best2, r, (decide (e3.2 = (e4.2 + t56))), t162, t172, t49, t54, t55, (t56 + 1), c5, c6) else none else none) else (if fits (t56 + 1) then go2 (terms3, at03, best2, r, false, t162, t172, t49, t54, t55, (t56 + 1), c5, c6) else none) else if fits (t56 + 1) then go2 (terms3, at03, best2, r, false, t162, t172, t49, t54, t55, (t56 + 1), c5, c6) else none) else none) else bif fits0 then if fits (t172 + 1) then go (terms3, at03, (some r), t162, (t172 + 1), c5, c6) else none else if fits (t172 + 1) then go (terms3, at03, best2, t162, (t172 + 1), c5, c6) else none) N (terms2, at02, best, e, true, t16, t17, (decide ((e.1.length : Int) ≤ (p.1.length : Int))), e.1, (e.1.length : Int), (0 : Int), c3, c4)) else iter (fun go3 (terms4, at04, best3, r2, fits02, t163, t173, t492, t542, t552, t562, c7, c8) => bif decide (t562 < t552) then oB (idx t542 t562) fun e5 => (if fits (at04 + t562) then oB (idx terms4 (at04 + t562)) fun e6 => (bif fits02 then bif decide (e6.1 = e5) then oB (idx terms4 at04) fun e7 => (if fits (e7.2 + t562) then if fits (t562 + 1) then go3 (terms4, at04, best3, r2, (decide (e6.2 = (e7.2 + t562))), t163, t173, t492, t542, t552, (t562 + 1), c7, c8) else none else none) else (if fits (t562 + 1) then go3 (terms4, at04, best3, r2, false, t163, t173, t492, t542, t552, (t562 + 1), c7, c8) else none) else if fits (t562 + 1) then go3 (terms4, at04, best3, r2, false, t163, t173, t492, t542, t552, (t562 + 1), c7, c8) else none) else none) else bif fits02 then if fits (t173 + 1) then go (terms4, at04, (some r2), t163, (t173 + 1), c7, c8) else none else if fits (t173 + 1) then go (terms4, at04, best3, t163, (t173 + 1), c7, c8) else none) N (terms2, at02, best, e, true, t16, t17, false, e.1, (e.1.length : Int), (0 : Int), c3, c4)) else none) else some best) N (terms, at0, (none : Option Z3), (c2.length : Int), (0 : Int), c, c2))
theorem jtv (N : Nat) : mK 172 ⟨⟨[.agg [.pv (.sl .str), .pv Y14], .pv Y13, pI], []⟩, ⟨[.pv (.opt Y16)], []⟩, c4A (jbH N)⟩ :=
 mO ja Tryz.func172 rfl N (.seq .no (.seq .no (.seq (.seq .no (.block (.loop jty (.seq .no (.seq .no (.seq (.block (.seq .no (.seq .no (.seq .no (.seq .no (.seq (.seq .no (.block (.loop jss .no))) .no)))))) .no)))))) .no))) _
def jlW : Sh := ⟨.dead :: .dead :: .box 2 0 :: .dead :: .dead :: .own 600005 Y15 151 true :: .own 600006 Y15 151 true :: dz 17 (.own 600024 Y6 231 true :: pI :: pI :: dz 67 []), [(2, false, [.pv (.sl .str), .pv Y14])]⟩
def jnt : Sh := ⟨.dead :: .dead :: .box 2 0 :: .dead :: .dead :: .own 600005 Y15 151 true :: .own 600006 Y15 151 true :: dz 3 (pI :: dz 83 []), [(2, false, [.pv (.sl .str), .pv Y14])]⟩
def jbw (N : Nat) (v : List Z0) (w : List Z3) (A : List UInt8) : Option (Z5) :=
 (oB (jaj N v w) fun G => bif !G then some ([] : Z6) else oB (jaF N A) fun E => bif !E then some ([] : Z6) else oB (jct N A) fun u => iter (fun o (h, f, j, k, a, d, l) => bif decide (a < k) then oB (idx j a) fun i => (oB (jaB N i.1) fun p => oB (jao N d i.1) fun D => bif !D then oB (jao N d p) fun C => (bif !C then if room f.length ([(p, i.2.1)] : Z6).length 24 then if fits (a + 1) then o (h, (f ++ ([(p, i.2.1)] : Z6)), j, k, (a + 1), d, l) else none else none else if fits (a + 1) then o (h, f, j, k, (a + 1), d, l) else none) else if fits (a + 1) then o (h, f, j, k, (a + 1), d, l) else none) else iter (fun y (e, c, b, n, q) => bif decide (b < (c.length : Int)) then oB (jbH N n q c b) fun m => (bif Option.isNone m then oB (idx c b) fun z => (if room e.length ([z] : Z6).length 24 then if fits (b + 1) then y ((e ++ ([z] : Z6)), c, (b + 1), n, q) else none else none) else oB m fun B => oB (idx c b) fun t => if room e.length ([(B.2, t.2)] : Z6).length 24 then oB m fun x => (if fits (b + (x.1.length : Int)) then y ((e ++ ([(B.2, t.2)] : Z6)), c, (b + (x.1.length : Int)), n, q) else none) else none) else some e) N (h, f, (0 : Int), d, l)) N (([] : Z6), ([] : Z6), u, (u.length : Int), (0 : Int), v, w))
theorem jgO (N : Nat) : mK 97 ⟨⟨[.agg [.pv (.sl .str), .pv Y14], pS], []⟩, ⟨[.own 1 Y15 151 true], []⟩, c3A (jbw N)⟩ :=
 mO (fC (jdX N) (fC (jdK N) (fC (jqc N) (fC (jio N) (fC (jh5 N) (fC (jtv N) ja)))))) Tryz.func97 rfl N (.seq .no (.seq .no (.seq .no (.seq .no (.seq (.seq .no (.block (.loop jlW .no))) (.seq (.seq .no (.block (.loop jnt .no))) .no)))))) _
def k__loop_example_fossick_impl_Seg_put_1_m (N : Nat) (d : List UInt8) (b : List UInt8) (e : Z4) (c : List UInt8) (a : Z0 × Int) : Z7 :=
 (bif decide (d = c) then some (decide (b = a.1)) else some false)
theorem jmw (N : Nat) : mK 174 ⟨⟨[.agg [pS, pS, .pv Y11], .ptr .str, .ptr Y15], []⟩, ⟨[pB], []⟩, c5A (k__loop_example_fossick_impl_Seg_put_1_m N)⟩ :=
 mO ja Tryz.func174 rfl N .no _
def jnc : Sh := ⟨.pv Y4 :: .clo 174 [.ptr .str, .ptr Y15] :: dz 5 (pI :: pI :: dz 10 []), []⟩
def k_slices_IndexFunc_146_m (N : Nat) (d : List Z1) (i : Z0 × Z0 × Int) : Z10 :=
 (iter (fun k (e, b, f, a) => bif decide (a < f) then oB (idx e a) fun c => (oB (k__loop_example_fossick_impl_Seg_put_1_m N c.1 c.2.1 c.2.2 b.1 b.2) fun j => bif j then some a else if fits (a + 1) then k (e, b, f, (a + 1)) else none) else some (-1)) N (d, i, (d.length : Int), (0 : Int)))
theorem jrl (N : Nat) : mK 173 ⟨⟨[.pv Y4, .clo 174 [.ptr .str, .ptr Y15]], []⟩, ⟨[pI], []⟩, c2A (k_slices_IndexFunc_146_m N)⟩ :=
 mO (fC (jmw N) ja) Tryz.func173 rfl N (.seq .no (.seq (.seq .no (.block (.loop jnc .no))) .no)) _
end Go.Proofs.YtfgcmhhacfkhcaaGreatDoor
