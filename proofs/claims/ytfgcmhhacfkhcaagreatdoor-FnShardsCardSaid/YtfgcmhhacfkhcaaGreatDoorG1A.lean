import Derived.Test.YtfgcmhhacfkhcaaGreatDoorSJ
set_option linter.unusedVariables false
set_option linter.unusedSimpArgs false
namespace Go.Proofs.YtfgcmhhacfkhcaaGreatDoor
open Go.RowKit
open Option renaming bind → oB
set_option maxRecDepth 1000000
abbrev Z0 : Type := List UInt8
abbrev Z1 : Type := Z0 × Z0 × (List (Int × (List Int)))
abbrev Z2 : Type := Int × (List (Z0 × Z0)) × (List (Z0 × Int))
abbrev Z3 : Type := List (Int × (List Int))
abbrev Z4 : Type := (List Z0) × Z0
abbrev Z5 : Type := List (Int × Int)
abbrev Z6 : Type := List (Int × Int)
abbrev Z7 : Type := List (Z0 × Int)
abbrev Z8 : Type := Option (Bool)
abbrev Z9 : Type := List (Z0 × Int)
abbrev Z10 : Type := Z0 × Int × Int × Int
abbrev Z11 : Type := ((List Z0) × (List Z4)) × (List Z2) × (List Z1)
abbrev Z12 : Type := List (Z0 × Z0)
abbrev Z13 : Type := Option (Int)
abbrev Z14 : Type := List (Z0 × Z0)
abbrev Z15 : Type := List (Int × (List Int))
abbrev Z16 : Type := List (List Int)
abbrev Z17 : Type := Z0 × Z0 × (List Int) × Int × Int × Int
abbrev Z18 : Type := Int × Int × Z0 × (List Z0) × Int × Int × (List DQ) × Bool × Int × Int × Int × Int × Bool × Int × Int
abbrev mK := ModelOk Tryz.prog
theorem mO {l : List (Nat × Model)} (hl : jR Tryz.prog l) {f : FuncId} {fn : Func} {c : Code} (hf : Tryz.prog.funcs[f]? = some fn) (hbody : fn.body = some c) (N : Nat) (h : Hint) (m : Model) (wr rs dw : List Nat := [])
  (hname : (fn.name == "runtime.NumGoroutine") = false := by kernel_rfl) (hres : m.arg.names.all (jbC l wr rs dw).res = true := by kernel_rfl) (hlen : Nat.ble m.arg.vals.length fn.ntmps = true := by kernel_rfl)
  (hrun : ∀ a, m.run a = runF N (jbC l wr rs dw) okDraw fn c h m.arg m.ret a := by intro a; kernel_rfl) : ModelOk Tryz.prog f m := modelOk_of (E := jbC l wr rs dw) (jtQ hl wr rs dw) hf hname hbody N h m hres hlen hrun
theorem fC {k : Nat} {m : Model} {l : List (Nat × Model)} (h : ModelOk Tryz.prog k m) (hl : jR Tryz.prog l) : jR Tryz.prog ((k, m) :: l) := jsH h hl
abbrev pI : VS := .pv (.int .i64)
abbrev pS : VS := .pv .str
abbrev pB : VS := .pv .bool
abbrev tI : Tp := .int .i64
abbrev c1A {α ρ : Type} (f : α → ρ) (a : α) : ρ := f a
abbrev c2A {α0 α1 ρ : Type} (f : α0 → α1 → ρ) (a : α0 × α1) : ρ := f a.1 a.2
abbrev c3A {α0 α1 α2 ρ : Type} (f : α0 → α1 → α2 → ρ) (a : α0 × α1 × α2) : ρ := f a.1 a.2.1 a.2.2
abbrev c4A {α0 α1 α2 α3 ρ : Type} (f : α0 → α1 → α2 → α3 → ρ) (a : α0 × α1 × α2 × α3) : ρ := f a.1 a.2.1 a.2.2.1 a.2.2.2
abbrev c5A {α0 α1 α2 α3 α4 ρ : Type} (f : α0 → α1 → α2 → α3 → α4 → ρ) (a : α0 × α1 × α2 × α3 × α4) : ρ := f a.1 a.2.1 a.2.2.1 a.2.2.2.1 a.2.2.2.2
abbrev c6A {α0 α1 α2 α3 α4 α5 ρ : Type} (f : α0 → α1 → α2 → α3 → α4 → α5 → ρ) (a : α0 × α1 × α2 × α3 × α4 × α5) : ρ := f a.1 a.2.1 a.2.2.1 a.2.2.2.1 a.2.2.2.2.1 a.2.2.2.2.2
abbrev c7A {α0 α1 α2 α3 α4 α5 α6 ρ : Type} (f : α0 → α1 → α2 → α3 → α4 → α5 → α6 → ρ) (a : α0 × α1 × α2 × α3 × α4 × α5 × α6) : ρ := f a.1 a.2.1 a.2.2.1 a.2.2.2.1 a.2.2.2.2.1 a.2.2.2.2.2.1 a.2.2.2.2.2.2
abbrev c9A {α0 α1 α2 α3 α4 α5 α6 α7 α8 ρ : Type} (f : α0 → α1 → α2 → α3 → α4 → α5 → α6 → α7 → α8 → ρ) (a : α0 × α1 × α2 × α3 × α4 × α5 × α6 × α7 × α8) : ρ := f a.1 a.2.1 a.2.2.1 a.2.2.2.1 a.2.2.2.2.1 a.2.2.2.2.2.1 a.2.2.2.2.2.2.1 a.2.2.2.2.2.2.2.1 a.2.2.2.2.2.2.2.2
abbrev c10A {α0 α1 α2 α3 α4 α5 α6 α7 α8 α9 ρ : Type} (f : α0 → α1 → α2 → α3 → α4 → α5 → α6 → α7 → α8 → α9 → ρ) (a : α0 × α1 × α2 × α3 × α4 × α5 × α6 × α7 × α8 × α9) : ρ := f a.1 a.2.1 a.2.2.1 a.2.2.2.1 a.2.2.2.2.1 a.2.2.2.2.2.1 a.2.2.2.2.2.2.1 a.2.2.2.2.2.2.2.1 a.2.2.2.2.2.2.2.2.1 a.2.2.2.2.2.2.2.2.2
abbrev c11A {α0 α1 α2 α3 α4 α5 α6 α7 α8 α9 α10 ρ : Type} (f : α0 → α1 → α2 → α3 → α4 → α5 → α6 → α7 → α8 → α9 → α10 → ρ) (a : α0 × α1 × α2 × α3 × α4 × α5 × α6 × α7 × α8 × α9 × α10) : ρ := f a.1 a.2.1 a.2.2.1 a.2.2.2.1 a.2.2.2.2.1 a.2.2.2.2.2.1 a.2.2.2.2.2.2.1 a.2.2.2.2.2.2.2.1 a.2.2.2.2.2.2.2.2.1 a.2.2.2.2.2.2.2.2.2.1 a.2.2.2.2.2.2.2.2.2.2
abbrev c13A {α0 α1 α2 α3 α4 α5 α6 α7 α8 α9 α10 α11 α12 ρ : Type} (f : α0 → α1 → α2 → α3 → α4 → α5 → α6 → α7 → α8 → α9 → α10 → α11 → α12 → ρ) (a : α0 × α1 × α2 × α3 × α4 × α5 × α6 × α7 × α8 × α9 × α10 × α11 × α12) : ρ := f a.1 a.2.1 a.2.2.1 a.2.2.2.1 a.2.2.2.2.1 a.2.2.2.2.2.1 a.2.2.2.2.2.2.1 a.2.2.2.2.2.2.2.1 a.2.2.2.2.2.2.2.2.1 a.2.2.2.2.2.2.2.2.2.1 a.2.2.2.2.2.2.2.2.2.2.1 a.2.2.2.2.2.2.2.2.2.2.2.1 a.2.2.2.2.2.2.2.2.2.2.2.2
def dz : Nat → List VS → List VS
 | 0, l => l
 | n + 1, l => .dead :: dz n l
abbrev Y21 : Tp := .sl tI
abbrev Y20 : Tp := .pair .str .str
abbrev Y19 : Tp := .sl (.pair .str .str)
abbrev Y18 : Tp := .pair (.sl .str) .str
abbrev Y17 : Tp := .pair .str tI
abbrev Y16 : Tp := .sl (.pair (.sl .str) .str)
abbrev Y15 : Tp := .sl (.pair .str tI)
abbrev Y14 : Tp := .pair tI tI
abbrev Y13 : Tp := .sl (.pair tI tI)
abbrev Y12 : Tp := .pair tI (.sl tI)
abbrev Y11 : Tp := .sl (.pair tI (.sl tI))
abbrev Y6 : Tp := .pair .str (.pair tI (.pair tI tI))
abbrev Y5 : Tp := .pair .str (.pair .str (.sl (.pair tI (.sl tI))))
abbrev Y4 : Tp := .sl (.pair .str (.pair .str (.sl (.pair tI (.sl tI)))))
abbrev Y3 : Tp := .pair tI (.pair (.sl (.pair .str .str)) (.sl (.pair .str tI)))
abbrev Y2 : Tp := .sl (.pair tI (.pair (.sl (.pair .str .str)) (.sl (.pair .str tI))))
abbrev Y1 : Tp := .pair (.sl (.pair tI (.pair (.sl (.pair .str .str)) (.sl (.pair .str tI))))) (.sl (.pair .str (.pair .str (.sl (.pair tI (.sl tI))))))
abbrev Y0 : Tp := .pair (.pair (.sl .str) (.sl (.pair (.sl .str) .str))) (.pair (.sl (.pair tI (.pair (.sl (.pair .str .str)) (.sl (.pair .str tI))))) (.sl (.pair .str (.pair .str (.sl (.pair tI (.sl tI)))))))
def jt (N : Nat) (a : Int) : Z13 :=
 (bif decide ((65 : Int) ≤ a) then bif decide (a ≤ 90) then some (IntKind.u8.wrap (a + 32)) else (bif decide ((97 : Int) ≤ a) then bif decide (a ≤ 122) then some a else (bif decide ((48 : Int) ≤ a) then bif decide (a ≤ 57) then some a else (some 0) else some 0) else bif decide ((48 : Int) ≤ a) then bif decide (a ≤ 57) then some a else (some 0) else some 0) else bif decide ((97 : Int) ≤ a) then bif decide (a ≤ 122) then some a else (bif decide ((48 : Int) ≤ a) then bif decide (a ≤ 57) then some a else (some 0) else some 0) else bif decide ((48 : Int) ≤ a) then bif decide (a ≤ 57) then some a else (some 0) else some 0)
theorem jfG (N : Nat) : mK 207 ⟨⟨[.pv (.int .u8)], []⟩, ⟨[.pv (.int .u8)], []⟩, c1A (jt N)⟩ :=
 mO ja Tryz.func207 rfl N .no _
def jJ (N : Nat) (a : Int) (b : Int) (c : Int) : Z8 :=
 (bif decide (b ≤ a) then some (decide (a ≤ c)) else some false)
theorem jcL (N : Nat) : mK 112 ⟨⟨[pI, pI, pI], []⟩, ⟨[pB], []⟩, c3A (jJ N)⟩ :=
 mO ja Tryz.func112 rfl N .no _
def jr5 : Sh := ⟨pS :: .dead :: .dead :: pI :: dz 23 [], []⟩
def jT (N : Nat) (d : List UInt8) : Z8 :=
 (iter (fun f (a, b) => bif decide (b < (a.length : Int)) then oB (idx a b) fun c => (oB (jt N (c.toNat : Int)) fun h => oB (idx a b) fun k => bif !decide (h = (k.toNat : Int)) then some false else oB (idx a b) fun j => bif decide ((j.toNat : Int) = 0) then some false else if fits (b + 1) then f (a, (b + 1)) else none) else oB (jJ N (a.length : Int) 1 12) fun i => some i) N (d, (0 : Int)))
theorem jgp (N : Nat) : mK 140 ⟨⟨[pS], []⟩, ⟨[pB], []⟩, c1A (jT N)⟩ :=
 mO (fC (jfG N) (fC (jcL N) ja)) Tryz.func140 rfl N (.seq .no (.seq (.seq .no (.block (.loop jr5 .no))) .no)) _
def jxz (N : Nat) (k : Int) (i : List UInt8) (h : List Z0) (d : Int) (e : Int) (b : List DQ) (j : Bool) (f : Bool) (c : Bool) (a : Bool) : Z8 :=
 (bif j then bif f then bif c then bif a then some true else (some (decide ((b.length : Int) = 0))) else (bif decide (d = 0) then bif decide (e = 0) then bif a then some true else (some (decide ((b.length : Int) = 0))) else (some false) else some false) else (bif decide ((h.length : Int) = 0) then bif c then bif a then some true else (some (decide ((b.length : Int) = 0))) else (bif decide (d = 0) then bif decide (e = 0) then bif a then some true else (some (decide ((b.length : Int) = 0))) else (some false) else some false) else some false) else bif decide (i = ([] : List UInt8)) then bif f then bif c then bif a then some true else (some (decide ((b.length : Int) = 0))) else (bif decide (d = 0) then bif decide (e = 0) then bif a then some true else (some (decide ((b.length : Int) = 0))) else (some false) else some false) else (bif decide ((h.length : Int) = 0) then bif c then bif a then some true else (some (decide ((b.length : Int) = 0))) else (bif decide (d = 0) then bif decide (e = 0) then bif a then some true else (some (decide ((b.length : Int) = 0))) else (some false) else some false) else some false) else some false)
theorem jDV (N : Nat) : mK 299 ⟨⟨[.agg [pI, pS, .pv (.sl .str), pI, pI, .pv (.sl .q)], pB, pB, pB, pB], []⟩, ⟨[pB], []⟩, c10A (jxz N)⟩ :=
 mO ja Tryz.func299 rfl N .no _
def jDt : Sh := ⟨.pv (.sl .str) :: pI :: dz 3 (pI :: dz 16 []), []⟩
def jxL (N : Nat) (d : List Z0) (k : Int) : Z8 :=
 (iter (fun f (a, c, b) => bif decide (b < (a.length : Int)) then oB (idx a b) fun j => (oB (jT N j) fun h => bif !h then some false else if fits (b + 1) then f (a, c, (b + 1)) else none) else oB (jJ N (a.length : Int) 1 c) fun i => some i) N (d, k, (0 : Int)))
theorem jDs (N : Nat) : mK 300 ⟨⟨[.pv (.sl .str), pI], []⟩, ⟨[pB], []⟩, c2A (jxL N)⟩ :=
 mO (fC (jgp N) (fC (jcL N) ja)) Tryz.func300 rfl N (.seq .no (.seq (.seq .no (.block (.loop jDt .no))) .no)) _
def jBL : Sh := ⟨pS :: .dead :: .dead :: pI :: dz 28 [], []⟩
def jyk (N : Nat) (f : List UInt8) : Z8 :=
 (iter (fun c (b, a) => bif decide (a < (b.length : Int)) then oB (idx b a) fun d => (bif !decide ((d.toNat : Int) = 42) then oB (idx b a) fun k => (bif !decide ((k.toNat : Int) = 63) then if fits (a + 1) then oB (cut b a (a + 1)) fun e => (oB (jT N e) fun i => bif !i then some false else if fits (a + 1) then c (b, (a + 1)) else none) else none else if fits (a + 1) then c (b, (a + 1)) else none) else if fits (a + 1) then c (b, (a + 1)) else none) else oB (jJ N (b.length : Int) 1 12) fun j => some j) N (f, (0 : Int)))
theorem jC1 (N : Nat) : mK 301 ⟨⟨[pS], []⟩, ⟨[pB], []⟩, c1A (jyk N)⟩ :=
 mO (fC (jgp N) (fC (jcL N) ja)) Tryz.func301 rfl N (.seq .no (.seq (.seq .no (.block (.loop jBL .no))) .no)) _
def jDP : Sh := ⟨.dead :: .box 1 0 :: .dead :: pI :: dz 4 (pI :: dz 123 (pB :: dz 34 [])), [(1, false, [pI, pS, .pv (.sl .str), pI, pI, .pv (.sl .q)])]⟩
def jyq (N : Nat) (a : Int) (c : List UInt8) (b : List Z0) (d : Int) (e : Int) (f : List DQ) : Z8 :=
 (bif decide (a = 1) then oB (jxz N a c b d e f false false false false) fun G => (some G) else bif decide (a = 2) then oB (jxz N a c b d e f true true false false) fun H => (bif H then oB (jT N c) fun O => (bif O then oB (jxL N b 1) fun T => (some T) else some false) else some false) else bif decide (a = 3) then oB (jxz N a c b d e f true true true false) fun q => (bif q then oB (jT N c) fun x => (bif x then oB (jxL N b 4) fun v => (bif v then bif decide ((1 : Int) < (b.length : Int)) then bif decide (e = 0) then oB (jJ N d 0 5) fun R => (some R) else (some false) else (some false) else some false) else some false) else some false) else bif decide (a = 4) then oB (jxz N a c b d e f true true true false) fun S => (bif S then oB (jT N c) fun W => (bif W then oB (jxL N b 1) fun K => (bif K then bif decide (e = 0) then oB (jJ N d 1 2) fun y => (some y) else (some false) else some false) else some false) else some false) else bif decide (a = 5) then oB (jxz N a c b d e f true true false false) fun I => (bif I then oB (jT N c) fun t => (bif t then bif decide ((b.length : Int) = 1) then oB (idx b 0) fun A => (oB (jyk N A) fun Q => bif Q then oB (idx b 0) fun P => (oB (jT N P) fun E => some (!E)) else some false) else (some false) else some false) else some false) else bif decide (a = 6) then oB (jxz N a c b d e f true false true false) fun u => (bif u then oB (jT N c) fun B => (bif B then oB (jJ N d 0 999999999) fun C => (bif C then oB (jJ N e d 999999999) fun U => (some U) else some false) else some false) else some false) else meet (fun (r : Int × Int × Bool × Int × Z0 × (List Z0) × Int × Int × (List DQ)) => match r with | (k, o, X, l, n, j, h, i, m) => bif X then oB (jxz N l n j h i m false false false true) fun z => (bif z then oB (jJ N k 2 4) fun D => (some D) else some false) else bif decide (o = 9) then oB (jxz N l n j h i m false false false true) fun L => (bif L then some (decide (k = 2)) else some false) else bif decide (o = 10) then oB (jxz N l n j h i m false false true true) fun w => (bif w then bif decide (k = 1) then bif decide (i = 0) then oB (jJ N h 2 9) fun V => (some V) else (some false) else (some false) else some false) else some false) fun p => bif decide (a = 7) then p ((f.length : Int), a, true, a, c, b, d, e, f) else p ((f.length : Int), a, (decide (a = 8)), a, c, b, d, e, f))
theorem jBO (N : Nat) : mK 249 ⟨⟨[.agg [pI, pS, .pv (.sl .str), pI, pI, .pv (.sl .q)]], []⟩, ⟨[pB], []⟩, c6A (jyq N)⟩ :=
 mO (fC (jDV N) (fC (jgp N) (fC (jDs N) (fC (jcL N) (fC (jC1 N) ja))))) Tryz.func249 rfl N (.seq .no (.seq .no (.seq (.seq .no (.block (.seq .no (.cond .no (.seq .no (.cond .no (.seq .no (.cond .no (.seq .no (.cond .no (.seq .no (.cond .no (.seq .no (.cond .no (.meet jDP .no .no))))))))))))))) .no))) _
def jD7 : Sh := ⟨.dead :: pI :: .box 2 0 :: .dead :: .dead :: pI :: dz 23 [], [(2, false, [pI, pS, .pv (.sl .str), pI, pI, .pv (.sl .q)])]⟩
def jxO (N : Nat) : (D : Nat) → Int → Z0 → (List Z0) → Int → Int → (List DQ) → Int → Z8
 | 0, _, _, _, _, _, _, _ => none
 | D + 1, q, q2, q3, q4, q5, q6, deep =>
 bif decide (deep = 0) then
 some false
 else
 oB (jyq N q q2 q3 q4 q5 q6) fun r =>
 bif !r then
 some false
 else
 iter (fun go (g : Int × Int × Int × Z0 × (List Z0) × Int × Int × (List DQ)) =>
 match g with
 | (deep2, i, q7, q8, q9, q10, q11, q12) =>
 bif decide (i < (q12.length : Int)) then
 oB (idx q12 i) fun e =>
 (if fits (deep2 - 1) then oB (jxO N D e.kind e.field e.words e.lo e.hi e.kids (deep2 - 1)) fun r2 =>
 (bif !r2 then
 some false
 else
 if fits (i + 1) then go (deep2, (i + 1), q7, q8, q9, q10, q11, q12) else none) else none)
 else
 some true) N (deep, 0, q, q2, q3, q4, q5, q6)
def jx9 (N D : Nat) : Model := ⟨⟨[.agg [pI, pS, .pv (.sl .str), pI, pI, .pv (.sl .q)], pI], []⟩, ⟨[pB], []⟩, c7A (jxO N D)⟩
theorem jBT (N D : Nat) (ih : mK 184 (jx9 N D)) : mK 184 (jx9 N (D + 1)) :=
 mO (fC ih (fC (jBO N) ja)) Tryz.func184 rfl N (.seq .no (.seq .no (.seq (.seq .no (.block (.loop jD7 .no))) .no))) (jx9 N (D + 1))
theorem jzV (N : Nat) : ∀ D, mK 184 (jx9 N D)
 | 0 => modelOk_none ⟨_, Tryz.func184, by decide, by kernel_rfl⟩ _ (fun a => rfl)
 | D + 1 => jBT N D (jzV N D)
def s_l11Ok_m (N : Nat) (b : Int) (a : List UInt8) (e : List Z0) (f : Int) (h : Int) (c : List DQ) : Z8 :=
 (oB (jxO N N b a e f h c 4) fun d => some d)
theorem jBX (N : Nat) : mK 111 ⟨⟨[.agg [pI, pS, .pv (.sl .str), pI, pI, .pv (.sl .q)]], []⟩, ⟨[pB], []⟩, c6A (s_l11Ok_m N)⟩ :=
 mO (fC (jzV N N) ja) Tryz.func111 rfl N .no _
def jdI (N : Nat) : Option ((List Z0)) :=
 (some ([([105, 110, 103] : List UInt8), ([101, 100] : List UInt8), ([101, 115] : List UInt8), ([108, 121] : List UInt8), ([115] : List UInt8)] : List Z0))
theorem jkj (N : Nat) : mK 271 ⟨⟨[], []⟩, ⟨[.own 1 .str 9 true], []⟩, fun a => jdI N ⟩ :=
 mO ja Tryz.func271 rfl N .no _
def jl2 : Sh := ⟨pS :: .dead :: .dead :: pI :: dz 30 [], []⟩
def ja6 (N : Nat) (f : List UInt8) : Option (Z0) :=
 (iter (fun d (a, b) => oB (jdI N) fun i => bif decide (b < (i.length : Int)) then oB (jdI N) fun j => (oB (idx j b) fun c => if fits ((a.length : Int) - (c.length : Int)) then bif decide ((3 : Int) ≤ ((a.length : Int) - (c.length : Int))) then oB (cut a ((a.length : Int) - (c.length : Int)) (a.length : Int)) fun e => (bif decide (e = c) then oB (cut a 0 ((a.length : Int) - (c.length : Int))) fun k => (some k) else if fits (b + 1) then d (a, (b + 1)) else none) else (if fits (b + 1) then d (a, (b + 1)) else none) else none) else some a) N (f, (0 : Int)))
theorem jtL (N : Nat) : mK 208 ⟨⟨[pS], []⟩, ⟨[pS], []⟩, c1A (ja6 N)⟩ :=
 mO (fC (jkj N) ja) Tryz.func208 rfl N (.seq .no (.seq (.seq .no (.block (.loop jl2 .no))) .no)) _
def jto : Sh := ⟨pS :: dz 9 [], []⟩
def jaq (N : Nat) (b : List UInt8) : Option (Z0) :=
 (iter (fun e (d : Z0) => let s2 := d; (oB (ja6 N s2) fun a => bif !decide (a = s2) then oB (ja6 N s2) fun c => (e c) else some s2)) N b)
theorem jfZ (N : Nat) : mK 141 ⟨⟨[pS], []⟩, ⟨[pS], []⟩, c1A (jaq N)⟩ :=
 mO (fC (jtL N) ja) Tryz.func141 rfl N (.seq .no (.seq (.block (.loop jto .no)) .no)) _
def jlY : Sh := ⟨.pv (.sl .str) :: pS :: dz 3 (pI :: dz 12 []), []⟩
def jap (N : Nat) (d : List Z0) (e : List UInt8) : Z8 :=
 (iter (fun h (b, c, a) => bif decide (a < (b.length : Int)) then oB (idx b a) fun i => (bif decide (i = c) then some true else if fits (a + 1) then h (b, c, (a + 1)) else none) else some false) N (d, e, (0 : Int)))
theorem jhP (N : Nat) : mK 142 ⟨⟨[.pv (.sl .str), pS], []⟩, ⟨[pB], []⟩, c2A (jap N)⟩ :=
 mO ja Tryz.func142 rfl N (.seq .no (.seq (.seq .no (.block (.loop jlY .no))) .no)) _
def jrs : Sh := ⟨.dead :: .box 1 0 :: .dead :: pI :: dz 114 [], [(1, false, [.pv (.sl .str), .pv Y16])]⟩
def js0 : Sh := ⟨.dead :: .box 1 0 :: .dead :: .dead :: pI :: dz 113 [], [(1, false, [.pv (.sl .str), .pv Y16])]⟩
def jrc : Sh := ⟨.dead :: .box 1 0 :: .dead :: .dead :: pI :: .box 5 0 :: pI :: dz 111 [], [(1, false, [.pv (.sl .str), .pv Y16]), (5, false, [.pv (.sl .str), pS])]⟩
def jcw (N : Nat) (t : List Z0) (D : List Z4) : Z8 :=
 (iter (fun n (a, c, i) => bif decide (a < (c.length : Int)) then oB (idx c a) fun B => (oB (jT N B) fun H => bif !H then some false else bif decide ((0 : Int) < a) then oB (idx c a) fun m => (if fits (a - 1) then oB (idx c (a - 1)) fun r => (bif Op.bytesLess m r || decide (m = r) then some false else if fits (a + 1) then n ((a + 1), c, i) else none) else none) else if fits (a + 1) then n ((a + 1), c, i) else none) else iter (fun G (j, q, f) => bif decide (j < (f.length : Int)) then oB (idx f j) fun p => (iter (fun C (k, d, l, o, b, h) => bif decide (d < (b.length : Int)) then oB (idx b d) fun x => (oB (jT N x) fun I => bif !I then some false else oB (idx b d) fun u => oB (jaq N u) fun w => oB (idx b d) fun z => bif !decide (w = z) then some false else oB (idx b d) fun K => oB (jap N l K) fun E => bif E then some false else if fits (d + 1) then C (k, (d + 1), l, o, b, h) else none) else oB (jJ N (b.length : Int) 1 3) fun v => bif !v then some false else oB (jT N h) fun A => bif !A then some false else oB (jaq N h) fun y => bif !decide (y = h) then some false else if fits (k + 1) then G ((k + 1), l, o) else none) N (j, (0 : Int), q, f, p.1, p.2)) else bif decide ((q.length : Int) ≤ 6) then some (decide ((f.length : Int) ≤ 4)) else some false) N ((0 : Int), c, i)) N ((0 : Int), t, D))
theorem jtf (N : Nat) : mK 66 ⟨⟨[.agg [.pv (.sl .str), .pv Y16]], []⟩, ⟨[pB], []⟩, c2A (jcw N)⟩ :=
 mO (fC (jgp N) (fC (jfZ N) (fC (jhP N) (fC (jcL N) ja)))) Tryz.func66 rfl N (.seq .no (.seq (.seq .no (.block (.loop jrs .no))) (.seq (.seq .no (.block (.loop js0 (.seq .no (.seq (.block (.seq .no (.seq (.seq .no (.block (.loop jrc .no))) .no))) .no))))) .no))) _
def jot : Sh := ⟨pS :: .dead :: .dead :: pI :: dz 19 [], []⟩
def jcu (N : Nat) (d : List UInt8) : Z8 :=
 (iter (fun f (a, b) => bif decide (b < (a.length : Int)) then oB (idx a b) fun c => (bif decide ((c.toNat : Int) < 32) then some false else oB (idx a b) fun h => bif decide ((126 : Int) < (h.toNat : Int)) then some false else if fits (b + 1) then f (a, (b + 1)) else none) else some (decide ((a.length : Int) ≤ 160))) N (d, (0 : Int)))
theorem jpZ (N : Nat) : mK 143 ⟨⟨[pS], []⟩, ⟨[pB], []⟩, c1A (jcu N)⟩ :=
 mO ja Tryz.func143 rfl N (.seq .no (.seq (.seq .no (.block (.loop jot .no))) .no)) _
def jp0 : Sh := ⟨.dead :: .box 1 0 :: .dead :: pI :: dz 100 [], [(1, false, [pI, .pv Y19, .pv Y15])]⟩
def jtP : Sh := ⟨.dead :: .box 1 0 :: dz 3 (pI :: dz 98 []), [(1, false, [pI, .pv Y19, .pv Y15])]⟩
def jcb (N : Nat) (u : Int) (v : Z14) (z : Z9) : Z8 :=
 (iter (fun o (b, f, d, j) => bif decide (b < (d.length : Int)) then oB (idx d b) fun e => (oB (jT N e.1) fun y => bif !y then some false else oB (jcu N e.2) fun A => bif !A then some false else bif decide ((0 : Int) < b) then if fits (b - 1) then oB (idx d (b - 1)) fun m => (bif Op.bytesLess e.1 m.1 || decide (e.1 = m.1) then some false else if fits (b + 1) then o ((b + 1), f, d, j) else none) else none else if fits (b + 1) then o ((b + 1), f, d, j) else none) else iter (fun p (a, i, k, c) => bif decide (a < (c.length : Int)) then oB (idx c a) fun B => (oB (jT N B.1) fun r => bif !r then some false else oB (idx c a) fun w => oB (jJ N w.2 0 999999999) fun x => bif !x then some false else bif decide ((0 : Int) < a) then oB (idx c a) fun n => (if fits (a - 1) then oB (idx c (a - 1)) fun l => (bif Op.bytesLess n.1 l.1 || decide (n.1 = l.1) then some false else if fits (a + 1) then p ((a + 1), i, k, c) else none) else none) else if fits (a + 1) then p ((a + 1), i, k, c) else none) else oB (jJ N i 1 9999) fun q => bif q then oB (jJ N (k.length : Int) 0 3) fun t => (bif t then some (decide ((c.length : Int) ≤ 3)) else some false) else some false) N ((0 : Int), f, d, j)) N ((0 : Int), u, v, z))
theorem jpD (N : Nat) : mK 67 ⟨⟨[.agg [pI, .pv Y19, .pv Y15]], []⟩, ⟨[pB], []⟩, c3A (jcb N)⟩ :=
 mO (fC (jgp N) (fC (jpZ N) (fC (jcL N) ja))) Tryz.func67 rfl N (.seq .no (.seq (.seq .no (.block (.loop jp0 .no))) (.seq (.seq .no (.block (.loop jtP .no))) .no))) _
def jl5 : Sh := ⟨.pv (.sl .str) :: pS :: dz 3 (pI :: dz 42 []), []⟩
def s_l7Put_m (N : Nat) (r : List Z0) (m : List UInt8) : Option ((List Z0)) :=
 (iter (fun p (a, b, c) => bif decide (c < (a.length : Int)) then oB (idx a c) fun q => (bif Op.bytesLess q b then if fits (c + 1) then p (a, b, (c + 1)) else none else bif decide (c < (a.length : Int)) then oB (idx a c) fun o => (bif decide (o = b) then some a else oB (cut a 0 c) fun d => if room ([] : List Z0).length d.length 16 then if room (([] : List Z0) ++ d).length ([b] : List Z0).length 16 then oB (cut a c (a.length : Int)) fun l => (if room ((([] : List Z0) ++ d) ++ ([b] : List Z0)).length l.length 16 then some (((([] : List Z0) ++ d) ++ ([b] : List Z0)) ++ l) else none) else none else none) else oB (cut a 0 c) fun e => if room ([] : List Z0).length e.length 16 then if room (([] : List Z0) ++ e).length ([b] : List Z0).length 16 then oB (cut a c (a.length : Int)) fun j => (if room ((([] : List Z0) ++ e) ++ ([b] : List Z0)).length j.length 16 then some (((([] : List Z0) ++ e) ++ ([b] : List Z0)) ++ j) else none) else none else none) else bif decide (c < (a.length : Int)) then oB (idx a c) fun t => (bif decide (t = b) then some a else oB (cut a 0 c) fun f => if room ([] : List Z0).length f.length 16 then if room (([] : List Z0) ++ f).length ([b] : List Z0).length 16 then oB (cut a c (a.length : Int)) fun i => (if room ((([] : List Z0) ++ f) ++ ([b] : List Z0)).length i.length 16 then some (((([] : List Z0) ++ f) ++ ([b] : List Z0)) ++ i) else none) else none else none) else oB (cut a 0 c) fun h => if room ([] : List Z0).length h.length 16 then if room (([] : List Z0) ++ h).length ([b] : List Z0).length 16 then oB (cut a c (a.length : Int)) fun k => (if room ((([] : List Z0) ++ h) ++ ([b] : List Z0)).length k.length 16 then some (((([] : List Z0) ++ h) ++ ([b] : List Z0)) ++ k) else none) else none else none) N (r, m, (0 : Int)))
theorem jgt (N : Nat) : mK 209 ⟨⟨[.pv (.sl .str), pS], []⟩, ⟨[.pv (.sl .str)], []⟩, c2A (s_l7Put_m N)⟩ :=
 mO ja Tryz.func209 rfl N (.seq .no (.seq .no (.seq (.block (.loop jl5 .no)) .no))) _
def joT : Sh := ⟨.pv Y2 :: .dead :: .dead :: .pv (.sl .str) :: pI :: dz 30 [], []⟩
def jkn : Sh := ⟨.pv Y2 :: .dead :: .dead :: .pv (.sl .str) :: pI :: pI :: dz 29 [], []⟩
def s_l7Names_m (N : Nat) (k : List Z2) : Option ((List Z0)) :=
 (iter (fun m (e, h, f) => bif decide (f < (e.length : Int)) then iter (fun l (c, i, a, b) => oB (idx c a) fun o => bif decide (b < (o.2.1.length : Int)) then oB (idx c a) fun j => (oB (idx j.2.1 b) fun p => oB (s_l7Put_m N i p.1) fun n => if fits (b + 1) then l (c, n, a, (b + 1)) else none) else if fits (a + 1) then m (c, i, (a + 1)) else none) N (e, h, f, (0 : Int)) else some h) N (k, ([] : List Z0), (0 : Int)))
theorem jlz (N : Nat) : mK 144 ⟨⟨[.pv Y2], []⟩, ⟨[.pv (.sl .str)], []⟩, c1A (s_l7Names_m N)⟩ :=
 mO (fC (jgt N) ja) Tryz.func144 rfl N (.seq .no (.seq .no (.seq (.seq .no (.block (.loop joT (.seq .no (.seq (.block (.seq .no (.block (.loop jkn .no)))) .no))))) .no))) _
def jl8 : Sh := ⟨.dead :: pS :: .box 2 0 :: .dead :: .dead :: pI :: dz 21 [], [(2, false, [pI, .pv Y19, .pv Y15])]⟩
def s_l6Field_m (N : Nat) (k : Int) (l : Z14) (j : Z9) (m : List UInt8) : Option (Z0) :=
 (iter (fun h (c, a, d, b, i) => bif decide (a < (b.length : Int)) then oB (idx b a) fun n => (bif decide (n.1 = c) then oB (idx b a) fun f => (some f.2) else if fits (a + 1) then h (c, (a + 1), d, b, i) else none) else some ([] : List UInt8)) N (m, (0 : Int), k, l, j))
theorem jhA (N : Nat) : mK 211 ⟨⟨[.agg [pI, .pv Y19, .pv Y15], pS], []⟩, ⟨[pS], []⟩, c4A (s_l6Field_m N)⟩ :=
 mO ja Tryz.func211 rfl N (.seq .no (.seq (.seq .no (.block (.loop jl8 .no))) .no)) _
def jo3 : Sh := ⟨pS :: .dead :: .dead :: .own 600003 Y6 231 true :: pI :: dz 50 [], []⟩
def jm6 : Sh := ⟨pS :: .dead :: .dead :: .own 600003 Y6 231 true :: pI :: .own 600005 (.int .u8) 5 true :: pI :: dz 48 [], []⟩
def jtK : Sh := ⟨pS :: .dead :: .dead :: .own 600003 Y6 231 true :: pI :: .pv (.sl (.int .u8)) :: pI :: dz 48 [], []⟩
def jb3 (N : Nat) (B : List UInt8) : Option ((List Z10)) :=
 (iter (fun l (p, u, m) => bif decide (m < (p.length : Int)) then iter (fun D (b, k, a, c, i) => bif decide (a < (b.length : Int)) then oB (idx b a) fun z => (oB (jt N (z.toNat : Int)) fun E => bif !decide (E = 0) then oB (idx b a) fun C => (oB (jt N (C.toNat : Int)) fun x => if room c.length ([x] : List Int).length 1 then if fits (a + 1) then D (b, k, (a + 1), (c ++ ([x] : List Int)), i) else none else none) else meet (fun (d : Z0 × (List Z10) × Int × (List Int) × Int) => match d with | (r, j, f, o, y) => bif decide ((0 : Int) < (o.length : Int)) then if room j.length ([((bytesOf o), (j.length : Int), y, f)] : List Z10).length 40 then if fits (f + 1) then l (r, (j ++ ([((bytesOf o), (j.length : Int), y, f)] : List Z10)), (f + 1)) else none else none else if fits (f + 1) then l (r, j, (f + 1)) else none) fun v => bif decide ((12 : Int) < (c.length : Int)) then oB (cut c 0 12) fun A => (v (b, k, a, A, i)) else v (b, k, a, c, i)) else meet (fun (d : Z0 × (List Z10) × Int × (List Int) × Int) => match d with | (w, h, e, n, t) => bif decide ((0 : Int) < (n.length : Int)) then if room h.length ([((bytesOf n), (h.length : Int), t, e)] : List Z10).length 40 then if fits (e + 1) then l (w, (h ++ ([((bytesOf n), (h.length : Int), t, e)] : List Z10)), (e + 1)) else none else none else if fits (e + 1) then l (w, h, (e + 1)) else none) fun q => bif decide ((12 : Int) < (c.length : Int)) then oB (cut c 0 12) fun G => (q (b, k, a, G, i)) else q (b, k, a, c, i)) N (p, u, m, ([] : List Int), m) else some u) N (B, ([] : List Z10), (0 : Int)))
theorem jsr (N : Nat) : mK 319 ⟨⟨[pS], []⟩, ⟨[.own 1 Y6 231 true], []⟩, c1A (jb3 N)⟩ :=
 mO (fC (jfG N) ja) Tryz.func319 rfl N (.seq .no (.seq .no (.seq (.seq .no (.block (.loop jo3 (.seq .no (.seq (.block (.seq .no (.seq .no (.seq (.block (.loop jm6 .no)) (.meet jtK .no .no))))) .no))))) .no))) _
def jmf : Sh := ⟨.dead :: .dead :: .box 2 0 :: .dead :: .dead :: .own 600005 Y17 151 true :: .own 600006 Y6 231 true :: pI :: dz 43 [], [(2, false, [.pv (.sl .str), .pv Y16])]⟩
def jbY (N : Nat) (j : List Z0) (p : List Z4) (k : List UInt8) : Option (Z7) :=
 (oB (jb3 N k) fun r => iter (fun e (c, b, a, d, f) => bif decide (a < (b.length : Int)) then oB (idx b a) fun o => (oB (jaq N o.1) fun h => oB (idx b a) fun n => oB (jap N d n.1) fun l => bif !l then oB (jap N d h) fun q => (bif !q then oB (idx b a) fun i => (if room c.length ([(h, i.2.1)] : Z9).length 24 then if fits (a + 1) then e ((c ++ ([(h, i.2.1)] : Z9)), b, (a + 1), d, f) else none else none) else if fits (a + 1) then e (c, b, (a + 1), d, f) else none) else if fits (a + 1) then e (c, b, (a + 1), d, f) else none) else some c) N (([] : Z9), r, (0 : Int), j, p))
theorem jrk (N : Nat) : mK 272 ⟨⟨[.agg [.pv (.sl .str), .pv Y16], pS], []⟩, ⟨[.own 1 Y17 151 true], []⟩, c3A (jbY N)⟩ :=
 mO (fC (jsr N) (fC (jfZ N) (fC (jhP N) ja))) Tryz.func272 rfl N (.seq .no (.seq .no (.seq .no (.seq (.seq .no (.block (.loop jmf .no))) .no)))) _
def jrL : Sh := ⟨.pv Y15 :: .pv (.sl .str) :: dz 3 (pI :: dz 36 []), []⟩
def jcC (N : Nat) (e : Z9) (k : List Z0) : Z8 :=
 (iter (fun i (b, c, a) => bif decide (a < (c.length : Int)) then bif decide ((b.length : Int) ≤ a) then some false else (oB (idx b a) fun j => oB (idx c a) fun h => bif !decide (j.1 = h) then some false else oB (idx b a) fun l => oB (idx b 0) fun d => if fits (d.2 + a) then bif !decide (l.2 = (d.2 + a)) then some false else (if fits (a + 1) then i (b, c, (a + 1)) else none) else none) else some true) N (e, k, (0 : Int)))
theorem jtg (N : Nat) : mK 320 ⟨⟨[.pv Y15, .pv (.sl .str)], []⟩, ⟨[pB], []⟩, c2A (jcC N)⟩ :=
 mO ja Tryz.func320 rfl N (.seq .no (.seq (.seq .no (.block (.loop jrL .no))) .no)) _
def jlL : Sh := ⟨.dead :: .pv Y15 :: .box 2 0 :: .dead :: .dead :: pI :: pI :: dz 38 [], [(2, false, [.pv (.sl .str), .pv Y16])]⟩
def jcJ (N : Nat) (h : List Z0) (o : List Z4) (i : Z9) : Z13 :=
 (iter (fun e (d, c, a, f, b) => bif decide (a < (b.length : Int)) then oB (idx b a) fun m => (oB (jcC N d m.1) fun l => bif l then bif decide (c < 0) then if fits (a + 1) then e (d, a, (a + 1), f, b) else none else (oB (idx b a) fun k => oB (idx b c) fun n => bif decide ((n.1.length : Int) < (k.1.length : Int)) then if fits (a + 1) then e (d, a, (a + 1), f, b) else none else if fits (a + 1) then e (d, c, (a + 1), f, b) else none) else if fits (a + 1) then e (d, c, (a + 1), f, b) else none) else some c) N (i, ((-1) : Int), (0 : Int), h, o))
theorem jqp (N : Nat) : mK 273 ⟨⟨[.agg [.pv (.sl .str), .pv Y16], .pv Y15], []⟩, ⟨[pI], []⟩, c3A (jcJ N)⟩ :=
 mO (fC (jtg N) ja) Tryz.func273 rfl N (.seq .no (.seq .no (.seq (.seq .no (.block (.loop jlL .no))) .no))) _
def jnK : Sh := ⟨.dead :: .dead :: .box 2 0 :: .dead :: .dead :: .own 600005 Y17 151 true :: .pv Y15 :: dz 45 [], [(2, false, [.pv (.sl .str), .pv Y16])]⟩
def ja5 (N : Nat) (f : List Z0) (k : List Z4) (n : List UInt8) : Option (Z7) :=
 (oB (jbY N f k n) fun q => iter (fun i (c, a, d, b) => bif decide ((0 : Int) < (a.length : Int)) then oB (jcJ N d b a) fun e => (bif decide (e < 0) then oB (idx a 0) fun j => (if room c.length ([j] : Z9).length 24 then oB (cut a 1 (a.length : Int)) fun m => (i ((c ++ ([j] : Z9)), m, d, b)) else none) else oB (idx b e) fun h => oB (idx a 0) fun l => if room c.length ([(h.2, l.2)] : Z9).length 24 then oB (idx b e) fun p => (oB (cut a (p.1.length : Int) (a.length : Int)) fun r => i ((c ++ ([(h.2, l.2)] : Z9)), r, d, b)) else none) else some c) N (([] : Z9), q, f, k))
theorem jiO (N : Nat) : mK 210 ⟨⟨[.agg [.pv (.sl .str), .pv Y16], pS], []⟩, ⟨[.own 1 Y17 151 true], []⟩, c3A (ja5 N)⟩ :=
 mO (fC (jrk N) (fC (jqp N) ja)) Tryz.func210 rfl N (.seq .no (.seq .no (.seq .no (.seq (.block (.loop jnK .no)) .no)))) _
def jn9 : Sh := ⟨.dead :: .pv Y2 :: pS :: .box 3 0 :: dz 3 (.pv (.sl .str) :: pI :: dz 31 []), [(3, false, [.pv (.sl .str), .pv Y16])]⟩
def jrT : Sh := ⟨.dead :: .pv Y2 :: pS :: .box 3 0 :: dz 3 (.pv (.sl .str) :: pI :: .own 600009 Y17 151 true :: pI :: dz 29 []), [(3, false, [.pv (.sl .str), .pv Y16])]⟩
def s_l7Terms_m (N : Nat) (r : List Z0) (w : List Z4) (x : List Z2) (y : List UInt8) : Option ((List Z0)) :=
 (iter (fun v (h, q, k, d, n, j) => bif decide (d < (h.length : Int)) then oB (idx h d) fun e => (oB (s_l6Field_m N e.1 e.2.1 e.2.2 q) fun A => oB (ja5 N n j A) fun B => iter (fun z (l, i, p, c, f, a, o, m) => bif decide (a < (f.length : Int)) then oB (idx f a) fun u => (oB (s_l7Put_m N p u.1) fun t => if fits (a + 1) then z (l, i, t, c, f, (a + 1), o, m) else none) else if fits (c + 1) then v (l, i, p, (c + 1), o, m) else none) N (h, q, k, d, B, (0 : Int), n, j)) else some k) N (x, y, ([] : List Z0), (0 : Int), r, w))
theorem jqQ (N : Nat) : mK 145 ⟨⟨[.agg [.pv (.sl .str), .pv Y16], .pv Y2, pS], []⟩, ⟨[.pv (.sl .str)], []⟩, c4A (s_l7Terms_m N)⟩ :=
 mO (fC (jhA N) (fC (jiO N) (fC (jgt N) ja))) Tryz.func145 rfl N (.seq .no (.seq .no (.seq (.seq .no (.block (.loop jn9 (.seq .no (.seq (.block (.seq .no (.seq .no (.block (.loop jrT .no))))) .no))))) .no))) _
def jnY : Sh := ⟨dz 3 (pS :: dz 5 (.own 600009 tI 3 true :: .own 600010 Y17 151 true :: pI :: dz 28 [])), []⟩
def s_l7Post_m (N : Nat) (h : List Z0) (n : List Z4) (k : Int) (l : Z14) (q : Z9) (o : List UInt8) (j : List UInt8) : Option ((List Int)) :=
 (oB (s_l6Field_m N k l q o) fun p => oB (ja5 N h n p) fun r => iter (fun f (d, c, b, a) => bif decide (a < (b.length : Int)) then oB (idx b a) fun m => (bif decide (m.1 = d) then oB (idx b a) fun e => (if room c.length ([e.2] : List Int).length 8 then if fits (a + 1) then f (d, (c ++ ([e.2] : List Int)), b, (a + 1)) else none else none) else if fits (a + 1) then f (d, c, b, (a + 1)) else none) else some c) N (j, ([] : List Int), r, (0 : Int)))
theorem js6 (N : Nat) : mK 212 ⟨⟨[.agg [.pv (.sl .str), .pv Y16], .agg [pI, .pv Y19, .pv Y15], pS, pS], []⟩, ⟨[.own 1 tI 3 true], []⟩, c7A (s_l7Post_m N)⟩ :=
 mO (fC (jhA N) (fC (jiO N) ja)) Tryz.func212 rfl N (.seq .no (.seq .no (.seq .no (.seq (.seq .no (.block (.loop jnY .no))) .no)))) _
def jkw : Sh := ⟨.dead :: .pv Y2 :: pS :: pS :: .box 4 0 :: dz 3 (.box 8 0 :: .box 9 0 :: pI :: dz 34 []), [(4, false, [.pv (.sl .str), .pv Y16]), (8, false, [pS, pS, .nils]), (9, false, [pS, pS, .own 700902 Y12 239 true])]⟩
def s_l7Entry_m (N : Nat) (t : List Z0) (v : List Z4) (w : List Z2) (r : List UInt8) (o : List UInt8) : Option Z1 :=
 (iter (fun n (b, l, j, a, f, e, p, q, h, d, c) => bif decide (a < (b.length : Int)) then oB (idx b a) fun i => (oB (s_l7Post_m N f e i.1 i.2.1 i.2.2 l j) fun k => bif decide ((0 : Int) < (k.length : Int)) then oB (idx b a) fun m => (if room c.length ([(m.1, k)] : Z3).length 32 then if fits (a + 1) then n (b, l, j, (a + 1), f, e, p, q, h, d, (c ++ ([(m.1, k)] : Z3))) else none else none) else if fits (a + 1) then n (b, l, j, (a + 1), f, e, p, q, h, d, c) else none) else some (h, d, c)) N (w, r, o, (0 : Int), t, v, ([] : List UInt8), ([] : List UInt8), r, o, ([] : Z3)))
theorem jtr (N : Nat) : mK 146 ⟨⟨[.agg [.pv (.sl .str), .pv Y16], .pv Y2, pS, pS], []⟩, ⟨[.agg [pS, pS, .own 1 Y12 239 true]], []⟩, c5A (s_l7Entry_m N)⟩ :=
 mO (fC (js6 N) ja) Tryz.func146 rfl N (.seq .no (.seq .no (.seq (.seq .no (.block (.loop jkw .no))) .no))) _
def s_l7CopyDoc_m (N : Nat) (c : Int) (b : Z14) (a : Z9) : Option Z2 :=
 (if room ([] : Z14).length b.length 32 then if room ([] : Z9).length a.length 24 then some (c, (([] : Z14) ++ b), (([] : Z9) ++ a)) else none else none)
theorem jtC (N : Nat) : mK 147 ⟨⟨[.agg [pI, .pv Y19, .pv Y15]], []⟩, ⟨[.agg [pI, .own 1 Y20 143 true, .own 2 Y17 145 true]], []⟩, c3A (s_l7CopyDoc_m N)⟩ :=
 mO ja Tryz.func147 rfl N .no _
def jn8 : Sh := ⟨.dead :: .pv Y2 :: .box 2 0 :: .dead :: .box 4 0 :: .box 5 0 :: .pv (.sl .str) :: pI :: dz 58 [], [(2, false, [.pv (.sl .str), .pv Y16]), (4, false, [.nils, .nils]), (5, false, [.nils, .own 700501 Y5 156 true])]⟩
def jpr : Sh := ⟨.dead :: .pv Y2 :: .box 2 0 :: .dead :: .box 4 0 :: .box 5 0 :: .pv (.sl .str) :: pI :: .pv (.sl .str) :: pI :: dz 56 [], [(2, false, [.pv (.sl .str), .pv Y16]), (4, false, [.nils, .nils]), (5, false, [.nils, .own 700501 Y5 156 true])]⟩
def jn0 : Sh := ⟨.dead :: .pv Y2 :: .dead :: .dead :: .box 4 0 :: .box 5 0 :: dz 4 (pI :: dz 55 []), [(4, false, [.nils, .nils]), (5, false, [.own 700500 Y3 44 true, .own 700501 Y5 156 true])]⟩
def s_l7Of_m (N : Nat) (z : List Z0) (E : List Z4) (y : List Z2) : Option ((List Z2) × (List Z1)) :=
 (oB (s_l7Names_m N y) fun H => iter (fun B (q, m, l, w, v, r) => bif decide (l < (m.length : Int)) then oB (idx m l) fun C => (oB (s_l7Terms_m N w v q C) fun I => iter (fun G (i, k, b, j, c, p, n, e) => bif decide (c < (j.length : Int)) then oB (idx k b) fun A => (oB (idx j c) fun K => oB (s_l7Entry_m N p n i A K) fun t => if room e.length ([t] : List Z1).length 56 then if fits (c + 1) then G (i, k, b, j, (c + 1), p, n, (e ++ ([t] : List Z1))) else none else none) else if fits (b + 1) then B (i, k, (b + 1), p, n, e) else none) N (q, m, l, I, (0 : Int), w, v, r)) else iter (fun D (h, d, f, u) => bif decide (d < (h.length : Int)) then oB (idx h d) fun o => (oB (s_l7CopyDoc_m N o.1 o.2.1 o.2.2) fun x => if room f.length ([x] : List Z2).length 56 then if fits (d + 1) then D (h, (d + 1), (f ++ ([x] : List Z2)), u) else none else none) else some (f, u)) N (q, (0 : Int), ([] : List Z2), r)) N (y, H, (0 : Int), z, E, ([] : List Z1)))
theorem jmU (N : Nat) : mK 68 ⟨⟨[.agg [.pv (.sl .str), .pv Y16], .pv Y2], []⟩, ⟨[.agg [.own 1 Y3 44 true, .own 2 Y5 156 true]], []⟩, c3A (s_l7Of_m N)⟩ :=
 mO (fC (jlz N) (fC (jqQ N) (fC (jtr N) (fC (jtC N) ja)))) Tryz.func68 rfl N (.seq .no (.seq .no (.seq .no (.seq (.seq .no (.block (.loop jn8 (.seq .no (.seq (.block (.seq .no (.seq .no (.block (.loop jpr .no))))) .no))))) (.seq (.seq .no (.block (.loop jn0 .no))) .no))))) _
def jyC (N : Nat) (a : List Z0) (d : List Z4) (b : List UInt8) : Option (Z0) :=
 (oB (jcw N a d) fun e => bif !e then some ([] : List UInt8) else oB (jT N b) fun f => bif !f then some ([] : List UInt8) else oB (ja5 N a d b) fun c => bif decide ((c.length : Int) = 0) then some ([] : List UInt8) else oB (idx c 0) fun h => some h.1)
theorem jCy (N : Nat) : mK 149 ⟨⟨[.agg [.pv (.sl .str), .pv Y16], pS], []⟩, ⟨[pS], []⟩, c3A (jyC N)⟩ :=
 mO (fC (jtf N) (fC (jgp N) (fC (jiO N) ja))) Tryz.func149 rfl N .no _
def jtm : Sh := ⟨.dead :: pS :: pS :: .box 3 0 :: dz 3 (pI :: dz 31 []), [(3, false, [.pv Y2, .pv Y4])]⟩
def s_l7Posts_m (N : Nat) (i : List Z2) (h : List Z1) (l : List UInt8) (m : List UInt8) : Option (Z15) :=
 (iter (fun f (d, c, a, e, b) => bif decide (a < (b.length : Int)) then oB (idx b a) fun n => (bif decide (n.1 = d) then oB (idx b a) fun k => (bif decide (k.2.1 = c) then oB (idx b a) fun o => (some o.2.2) else if fits (a + 1) then f (d, c, (a + 1), e, b) else none) else if fits (a + 1) then f (d, c, (a + 1), e, b) else none) else some ([] : Z3)) N (l, m, (0 : Int), i, h))
theorem jh6 (N : Nat) : mK 217 ⟨⟨[.agg [.pv Y2, .pv Y4], pS, pS], []⟩, ⟨[.pv Y11], []⟩, c4A (s_l7Posts_m N)⟩ :=
 mO ja Tryz.func217 rfl N (.seq .no (.seq (.seq .no (.block (.loop jtm .no))) .no)) _
def jst : Sh := ⟨dz 3 (pI :: dz 5 (.pv Y11 :: pI :: dz 22 [])), []⟩
def s_l12At_m (N : Nat) (e : List Z2) (d : List Z1) (i : List UInt8) (k : List UInt8) (m : Int) : Option ((List Int)) :=
 (oB (s_l7Posts_m N e d i k) fun l => iter (fun j (c, b, a) => bif decide (a < (b.length : Int)) then oB (idx b a) fun n => (bif decide (n.1 = c) then oB (idx b a) fun h => (some h.2) else if fits (a + 1) then j (c, b, (a + 1)) else none) else some ([] : List Int)) N (m, l, (0 : Int)))
theorem jn1 (N : Nat) : mK 213 ⟨⟨[.agg [.pv Y2, .pv Y4], pS, pS, pI], []⟩, ⟨[.pv Y21], []⟩, c5A (s_l12At_m N)⟩ :=
 mO (fC (jh6 N) ja) Tryz.func213 rfl N (.seq .no (.seq .no (.seq (.seq .no (.block (.loop jst .no))) .no))) _
def jqS : Sh := ⟨.dead :: pS :: pI :: .box 3 0 :: dz 3 (pI :: pI :: dz 55 []), [(3, false, [.pv Y2, .pv Y4])]⟩
def jm7 : Sh := ⟨.dead :: pS :: pI :: .box 3 0 :: dz 3 (pI :: pI :: pI :: dz 54 []), [(3, false, [.pv Y2, .pv Y4])]⟩
def s_l7Long_m (N : Nat) (q : List Z2) (p : List Z1) (z : List UInt8) (w : Int) : Z13 :=
 (iter (fun l (A, v, o, m, r, k) => bif decide (m < (k.length : Int)) then iter (fun n (d, e, f, a, c, h, b) => oB (idx b a) fun x => bif decide (c < (x.2.2.length : Int)) then oB (idx b a) fun t => (bif decide (t.1 = d) then oB (idx b a) fun B => (oB (idx B.2.2 c) fun y => bif decide (y.1 = e) then oB (idx b a) fun u => (oB (idx u.2.2 c) fun j => if fits (f + (j.2.length : Int)) then if fits (c + 1) then n (d, e, (f + (j.2.length : Int)), a, (c + 1), h, b) else none else none) else if fits (c + 1) then n (d, e, f, a, (c + 1), h, b) else none) else if fits (a + 1) then l (d, e, f, (a + 1), h, b) else none) else if fits (a + 1) then l (d, e, f, (a + 1), h, b) else none) N (A, v, o, m, (0 : Int), r, k) else some o) N (z, w, (0 : Int), (0 : Int), q, p))
theorem jrY (N : Nat) : mK 215 ⟨⟨[.agg [.pv Y2, .pv Y4], pS, pI], []⟩, ⟨[pI], []⟩, c4A (s_l7Long_m N)⟩ :=
 mO ja Tryz.func215 rfl N (.seq .no (.seq .no (.seq (.seq .no (.block (.loop jqS (.seq .no (.seq (.block (.seq .no (.block (.loop jm7 .no)))) .no))))) .no))) _
def jsB : Sh := ⟨.dead :: pS :: .box 2 0 :: .dead :: .dead :: pI :: pI :: dz 43 [], [(2, false, [.pv Y2, .pv Y4])]⟩
def jnl : Sh := ⟨.dead :: pS :: .box 2 0 :: .dead :: .dead :: pI :: pI :: pI :: dz 42 [], [(2, false, [.pv Y2, .pv Y4])]⟩
def s_l12Total_m (N : Nat) (p : List Z2) (n : List Z1) (t : List UInt8) : Z13 :=
 (iter (fun j (v, m, k, o, i) => bif decide (k < (i.length : Int)) then iter (fun u (c, d, a, e, h, b) => oB (idx b a) fun r => bif decide (e < (r.2.2.length : Int)) then oB (idx b a) fun q => (bif decide (q.1 = c) then oB (idx b a) fun w => (oB (idx w.2.2 e) fun l => if fits (d + (l.2.length : Int)) then if fits (e + 1) then u (c, (d + (l.2.length : Int)), a, (e + 1), h, b) else none else none) else if fits (a + 1) then j (c, d, (a + 1), h, b) else none) else if fits (a + 1) then j (c, d, (a + 1), h, b) else none) N (v, m, k, (0 : Int), o, i) else some m) N (t, (0 : Int), (0 : Int), p, n))
theorem jn2 (N : Nat) : mK 216 ⟨⟨[.agg [.pv Y2, .pv Y4], pS], []⟩, ⟨[pI], []⟩, c3A (s_l12Total_m N)⟩ :=
 mO ja Tryz.func216 rfl N (.seq .no (.seq .no (.seq (.seq .no (.block (.loop jsB (.seq .no (.seq (.block (.seq .no (.block (.loop jnl .no)))) .no))))) .no))) _
def jsx : Sh := ⟨pI :: pI :: dz 3 (pI :: dz 13 []), []⟩
def jbz (N : Nat) (h : Int) (e : Int) : Z13 :=
 (iter (fun f (a, c, b) => bif decide ((0 : Int) < a) then if fits (a * 2) then bif decide ((a * 2) ≤ c) then if fits (a * 2) then if fits (b + 1) then f ((a * 2), c, (b + 1)) else none else none else (some b) else none else some b) N (h, e, (0 : Int)))
theorem jkd (N : Nat) : mK 275 ⟨⟨[pI, pI], []⟩, ⟨[pI], []⟩, c2A (jbz N)⟩ :=
 mO ja Tryz.func275 rfl N (.seq .no (.seq .no (.seq (.block (.loop jsx .no)) .no))) _
def jkC : Sh := ⟨pI :: pI :: dz 15 [], []⟩
def jaY (N : Nat) : (D : Nat) → Int → Int → Z13
 | 0, _, _ => none
 | D + 1, a, b =>
 meet (fun (g : Int × Int) =>
 match g with
 | (a2, b2) =>
 bif decide (b2 = 0) then
 some a2
 else
 if b2 ≠ 0 then
 oB (jaY N D b2 (a2.tmod b2)) fun r =>
 (some r)
 else none) fun J =>
 bif decide (a < 0) then
 if fits (0 - a) then J ((0 - a), b) else none
 else
 J (a, b)
def jcQ (N D : Nat) : Model := ⟨⟨[pI, pI], []⟩, ⟨[pI], []⟩, c2A (jaY N D)⟩
theorem jlI (N D : Nat) (ih : mK 321 (jcQ N D)) : mK 321 (jcQ N (D + 1)) :=
 mO (fC ih ja) Tryz.func321 rfl N (.seq .no (.meet jkC .no .no)) (jcQ N (D + 1))
theorem jeF (N : Nat) : ∀ D, mK 321 (jcQ N D)
 | 0 => modelOk_none ⟨_, Tryz.func321, by decide, by kernel_rfl⟩ _ (fun a => rfl)
 | D + 1 => jlI N D (jeF N D)
def jlg : Sh := ⟨pI :: pI :: .dead :: .dead :: .box 4 0 :: dz 17 [], [(4, false, [pI, pI])]⟩
def jcf (N : Nat) (e : Int) (b : Int) : Option (Int × Int) :=
 (meet (fun (h : Int × Int × Int × Int) => match h with | (d, c, i, j) => oB (jaY N N d c) fun a => if a ≠ 0 then if fits (d.tdiv a) then if a ≠ 0 then if fits (c.tdiv a) then some ((d.tdiv a), (c.tdiv a)) else none else none else none else none) fun f => bif decide (b < 0) then if fits (0 - e) then if fits (0 - b) then f ((0 - e), (0 - b), 0, 0) else none else none else f (e, b, 0, 0))
theorem jn4 (N : Nat) : mK 274 ⟨⟨[pI, pI], []⟩, ⟨[.agg [pI, pI]], []⟩, c2A (jcf N)⟩ :=
 mO (fC (jeF N N) ja) Tryz.func274 rfl N (.seq .no (.meet jlg .no .no)) _
def jqT : Sh := ⟨pI :: .dead :: .dead :: pI :: pI :: dz 5 (.box 10 0 :: pI :: dz 21 []), [(10, false, [pI, pI])]⟩
def s_l12Term_m (N : Nat) (f : Int) (e : Int) (c : Int) (a : Int) (j : Int) : Option (Int × Int) :=
 (meet (fun (m : Int × Int × Int × Int × Int × Int) => match m with | (b, l, n, h, o, p) => oB (jbz N n l) fun d => if fits (1 + d) then if fits ((1 + d) * 22) then if fits (((1 + d) * 22) * b) then if fits (10 * b) then if fits ((10 * b) + 3) then if fits (((10 * b) + 3) + h) then oB (jcf N (((1 + d) * 22) * b) (((10 * b) + 3) + h)) fun i => (some (i.1, i.2)) else none else none else none else none else none else none) fun k => bif decide ((0 : Int) < c) then if fits (e * a) then if fits ((e * a) * 9) then if c ≠ 0 then if fits (((e * a) * 9).tdiv c) then k (f, a, j, (((e * a) * 9).tdiv c), 0, 0) else none else none else none else none else k (f, a, j, 1, 0, 0))
theorem jtF (N : Nat) : mK 214 ⟨⟨[pI, pI, pI, pI, pI], []⟩, ⟨[.agg [pI, pI]], []⟩, c5A (s_l12Term_m N)⟩ :=
 mO (fC (jkd N) (fC (jn4 N) ja)) Tryz.func214 rfl N (.seq .no (.seq .no (.meet jqT .no .no))) _
def s_l12Points_m (N : Nat) (b : List Z2) (c : List Z1) (d : List UInt8) (e : List UInt8) (h : Int) : Z13 :=
 (oB (s_l12At_m N b c d e h) fun f => bif decide ((f.length : Int) = 0) then some 0 else oB (s_l7Long_m N b c d h) fun k => oB (s_l12Total_m N b c d) fun j => oB (s_l7Posts_m N b c d e) fun i => oB (s_l12Term_m N (f.length : Int) k j (b.length : Int) (i.length : Int)) fun a => if fits (a.1 * 1000) then if a.2 ≠ 0 then if fits ((a.1 * 1000).tdiv a.2) then some ((a.1 * 1000).tdiv a.2) else none else none else none)
theorem jrZ (N : Nat) : mK 148 ⟨⟨[.agg [.pv Y2, .pv Y4], pS, pS, pI], []⟩, ⟨[pI], []⟩, c5A (s_l12Points_m N)⟩ :=
 mO (fC (jn1 N) (fC (jrY N) (fC (jn2 N) (fC (jh6 N) (fC (jtF N) ja))))) Tryz.func148 rfl N .no _
def jAu : Sh := ⟨.pv (.sl .str) :: pS :: dz 3 (pS :: pI :: dz 18 []), []⟩
def jxS (N : Nat) (l : List Z0) (o : List UInt8) : Option (Z0) :=
 (iter (fun n (d, b, c, a) => bif decide (a < (d.length : Int)) then meet (fun (e : (List Z0) × Z0 × Z0 × Int) => match e with | (i, m, h, f) => oB (idx i f) fun j => if h.length + j.length ≤ 9223372036854775807 then if fits (f + 1) then n (i, m, (h ++ j), (f + 1)) else none else none) fun k => (bif decide ((0 : Int) < a) then if c.length + b.length ≤ 9223372036854775807 then k (d, b, (c ++ b), a) else none else k (d, b, c, a)) else some c) N (l, o, ([] : List UInt8), (0 : Int)))
theorem jAy (N : Nat) : mK 220 ⟨⟨[.pv (.sl .str), pS], []⟩, ⟨[pS], []⟩, c2A (jxS N)⟩ :=
 mO ja Tryz.func220 rfl N (.seq .no (.seq .no (.seq (.seq .no (.block (.loop jAu (.seq .no (.seq (.block (.meet jAu .no .no)) .no))))) .no))) _
def jB2 : Sh := ⟨dz 3 (pI :: .dead :: .box 5 0 :: .box 6 0 :: .dead :: .dead :: .own 600009 Y21 66 true :: .own 600010 Y17 151 true :: pI :: dz 65 []), [(5, false, [.pv Y2, .pv Y4]), (6, false, [pI, pS, .pv (.sl .str), pI, pI, .pv (.sl .q)])]⟩
def jCf : Sh := ⟨dz 3 (pI :: .dead :: .box 5 0 :: .box 6 0 :: .dead :: .dead :: .own 600009 Y21 66 true :: .own 600010 Y17 151 true :: pI :: pI :: .pv Y21 :: .own 600014 tI 3 true :: pI :: dz 61 []), [(5, false, [.pv Y2, .pv Y4]), (6, false, [pI, pS, .pv (.sl .str), pI, pI, .pv (.sl .q)])]⟩
def jyf (N : Nat) (G : List Z0) (af : List Z4) (H : List Z2) (V : List Z1) (I : Int) (X : List UInt8) (C : List Z0) (O : Int) (P : Int) (K : List DQ) (ae : Int) : Option (Z16) :=
 (oB (jxS N C ([32] : List UInt8)) fun S => oB (ja5 N G af S) fun T => iter (fun ac (z, D, d, c, B, y, W, E, R, L, ab, ad) => bif decide (c < (d.length : Int)) then oB (idx d c) fun l => (oB (idx d 0) fun q => if fits (l.2 - q.2) then if fits ((l.2 - q.2) - c) then oB (idx d c) fun U => (oB (s_l12At_m N B y E U.1 z) fun aa => iter (fun A (p, i, r, h, b, f, e, a, w, n, m, v, u, t, x, o) => bif decide (a < (f.length : Int)) then oB (idx f a) fun Q => (bif decide (b ≤ Q) then oB (idx f a) fun k => (if fits (k - b) then if room e.length ([(k - b)] : List Int).length 8 then if fits (a + 1) then A (p, i, r, h, b, f, (e ++ ([(k - b)] : List Int)), (a + 1), w, n, m, v, u, t, x, o) else none else none else none) else if fits (a + 1) then A (p, i, r, h, b, f, e, (a + 1), w, n, m, v, u, t, x, o) else none) else if room i.length ([e] : List (List Int)).length 24 then if fits (h + 1) then ac (p, (i ++ ([e] : List (List Int))), r, (h + 1), w, n, m, v, u, t, x, o) else none else none) N (z, D, d, c, ((l.2 - q.2) - c), aa, ([] : List Int), (0 : Int), B, y, W, E, R, L, ab, ad)) else none else none) else some D) N (ae, ([] : List (List Int)), T, (0 : Int), H, V, I, X, C, O, P, K))
theorem jCm (N : Nat) : mK 218 ⟨⟨[.agg [.pv (.sl .str), .pv Y16], .agg [.pv Y2, .pv Y4], .agg [pI, pS, .pv (.sl .str), pI, pI, .pv (.sl .q)], pI], []⟩, ⟨[.own 1 Y21 66 true], []⟩, c11A (jyf N)⟩ :=
 mO (fC (jAy N) (fC (jiO N) (fC (jn1 N) ja))) Tryz.func218 rfl N (.seq .no (.seq .no (.seq .no (.seq (.seq .no (.block (.loop jB2 (.seq .no (.seq (.block (.seq .no (.seq .no (.seq .no (.seq (.seq .no (.block (.loop jCf .no))) .no))))) .no))))) .no)))) _
def jCI : Sh := ⟨.pv Y21 :: .dead :: .dead :: pI :: dz 31 [], []⟩
def jx3 (N : Nat) (d : List Int) : Z8 :=
 (iter (fun c (b, a) => bif decide (a < (b.length : Int)) then oB (idx b a) fun i => (oB (jJ N i 0 999999999) fun h => bif !h then some false else bif decide ((0 : Int) < a) then oB (idx b a) fun f => (if fits (a - 1) then oB (idx b (a - 1)) fun j => (bif decide (f ≤ j) then some false else if fits (a + 1) then c (b, (a + 1)) else none) else none) else if fits (a + 1) then c (b, (a + 1)) else none) else some (decide ((b.length : Int) ≤ 60))) N (d, (0 : Int)))
theorem jC9 (N : Nat) : mK 194 ⟨⟨[.pv Y21], []⟩, ⟨[pB], []⟩, c1A (jx3 N)⟩ :=
 mO (fC (jcL N) ja) Tryz.func194 rfl N (.seq .no (.seq (.seq .no (.block (.loop jCI .no))) .no)) _
def jBI : Sh := ⟨.pv (.sl Y21) :: pI :: pI :: pI :: pI :: dz 6 (pI :: dz 46 []), []⟩
def jxJ (N : Nat) : (D : Nat) → Z16 → Int → Int → Int → Int → Z8
 | 0, _, _, _, _, _ => none
 | D + 1, lists, k, last, start, slop =>
 bif decide (k = (lists.length : Int)) then
 if fits (last - start) then if fits ((lists.length : Int) - 1) then if fits ((last - start) - ((lists.length : Int) - 1)) then some (decide (((last - start) - ((lists.length : Int) - 1)) ≤ slop)) else none else none else none
 else
 iter (fun go (g : Z16 × Int × Int × Int × Int × Int) =>
 match g with
 | (lists2, k2, last2, start2, slop2, i) =>
 oB (idx lists2 k2) fun e =>
 bif decide (i < (e.length : Int)) then
 oB (idx lists2 k2) fun e2 =>
 (oB (idx e2 i) fun e3 =>
 bif decide (last2 < e3) then
 if fits (k2 + 1) then oB (idx lists2 k2) fun e4 =>
 (oB (idx e4 i) fun e5 =>
 oB (jxJ N D lists2 (k2 + 1) e5 start2 slop2) fun r =>
 bif r then
 some true
 else
 if fits (i + 1) then go (lists2, k2, last2, start2, slop2, (i + 1)) else none) else none
 else
 if fits (i + 1) then go (lists2, k2, last2, start2, slop2, (i + 1)) else none)
 else
 some false) N (lists, k, last, start, slop, 0)
def jyj (N D : Nat) : Model := ⟨⟨[.pv (.sl Y21), pI, pI, pI, pI], []⟩, ⟨[pB], []⟩, c5A (jxJ N D)⟩
theorem jD8 (N D : Nat) (ih : mK 276 (jyj N D)) : mK 276 (jyj N (D + 1)) :=
 mO (fC ih ja) Tryz.func276 rfl N (.seq .no (.seq .no (.seq (.seq .no (.block (.loop jBI .no))) .no))) (jyj N (D + 1))
theorem jzt (N : Nat) : ∀ D, mK 276 (jyj N D)
 | 0 => modelOk_none ⟨_, Tryz.func276, by decide, by kernel_rfl⟩ _ (fun a => rfl)
 | D + 1 => jD8 N D (jzt N D)
def jCF : Sh := ⟨.pv (.sl Y21) :: pI :: dz 3 (.own 600005 tI 3 true :: pI :: dz 56 []), []⟩
def jBd : Sh := ⟨.pv (.sl Y21) :: pI :: dz 3 (.own 600005 tI 3 true :: .dead :: pI :: dz 55 []), []⟩
def jyb (N : Nat) (t : List (List Int)) (u : Int) : Option ((List Int)) :=
 (iter (fun r (c, i, j, d) => bif decide (d < (c.length : Int)) then oB (idx c d) fun v => (oB (jx3 N v) fun y => bif !y then some ([] : List Int) else if fits (d + 1) then r (c, i, j, (d + 1)) else none) else oB (jJ N (c.length : Int) 1 6) fun z => bif !z then some ([] : List Int) else oB (jJ N i 0 5) fun n => bif !n then some ([] : List Int) else iter (fun k (b, f, e, a) => oB (idx b 0) fun o => bif decide (a < (o.length : Int)) then oB (idx b 0) fun A => (oB (idx A a) fun w => oB (idx b 0) fun p => oB (idx p a) fun m => oB (jxJ N N b 1 w m f) fun x => bif x then oB (idx b 0) fun q => (oB (idx q a) fun l => if room e.length ([l] : List Int).length 8 then if fits (a + 1) then k (b, f, (e ++ ([l] : List Int)), (a + 1)) else none else none) else if fits (a + 1) then k (b, f, e, (a + 1)) else none) else some e) N (c, i, j, (0 : Int))) N (t, u, ([] : List Int), (0 : Int)))
theorem jAW (N : Nat) : mK 219 ⟨⟨[.pv (.sl Y21), pI], []⟩, ⟨[.own 1 tI 3 true], []⟩, c2A (jyb N)⟩ :=
 mO (fC (jC9 N) (fC (jcL N) (fC (jzt N N) ja))) Tryz.func219 rfl N (.seq .no (.seq .no (.seq (.seq .no (.block (.loop jCF .no))) (.seq .no (.seq (.seq .no (.block (.loop jBd .no))) .no))))) _
def jCQ : Sh := ⟨dz 3 (pI :: .dead :: .box 5 0 :: .box 6 0 :: dz 3 (pI :: pI :: .own 600012 Y17 151 true :: pI :: dz 41 [])), [(5, false, [.pv Y2, .pv Y4]), (6, false, [pI, pS, .pv (.sl .str), pI, pI, .pv (.sl .q)])]⟩
def jCS : Sh := ⟨dz 3 (pI :: .box 4 0 :: .box 5 0 :: .box 6 0 :: dz 3 (pI :: dz 44 [])), [(4, false, [.pv (.sl .str), .pv Y16]), (5, false, [.pv Y2, .pv Y4]), (6, false, [pI, pS, .pv (.sl .str), pI, pI, .pv (.sl .q)])]⟩
def jx2 (N : Nat) (d : List Z0) (q : List Z4) (e : List Z2) (m : List Z1) (h : Int) (n : List UInt8) (p : List Z0) (a : Int) (k : Int) (i : List DQ) (o : Int) : Z13 :=
 (oB (jyf N d q e m h n p a k i o) fun v => bif decide ((v.length : Int) = 0) then some 0 else oB (jyb N v a) fun x => meet (fun (f : Int × Int × (List Z0) × (List Z4) × (List Z2) × (List Z1) × Int × Z0 × (List Z0) × Int × Int × (List DQ)) => match f with | (C, U, V, D, K, B, L, aa, u, E, Q, S) => oB (jxS N u ([32] : List UInt8)) fun O => oB (ja5 N V D O) fun W => iter (fun R (y, l, b, j, c, A, w, H, z, T, P, X, I) => bif decide (c < (j.length : Int)) then oB (idx j c) fun G => (oB (s_l12Points_m N A w z G.1 y) fun r => if fits (b + r) then if fits (c + 1) then R (y, l, (b + r), j, (c + 1), A, w, H, z, T, P, X, I) else none else none) else if fits (b * l) then some (b * l) else none) N (C, U, (0 : Int), W, (0 : Int), K, B, L, aa, u, E, Q, S)) fun t => bif decide ((3 : Int) < (x.length : Int)) then t (o, 3, d, q, e, m, h, n, p, a, k, i) else t (o, (x.length : Int), d, q, e, m, h, n, p, a, k, i))
theorem jAL (N : Nat) : mK 150 ⟨⟨[.agg [.pv (.sl .str), .pv Y16], .agg [.pv Y2, .pv Y4], .agg [pI, pS, .pv (.sl .str), pI, pI, .pv (.sl .q)], pI], []⟩, ⟨[pI], []⟩, c11A (jx2 N)⟩ :=
 mO (fC (jCm N) (fC (jAW N) (fC (jAy N) (fC (jiO N) (fC (jrZ N) ja))))) Tryz.func150 rfl N (.seq .no (.seq .no (.seq .no (.seq .no (.meet jCS .no (.seq .no (.seq .no (.seq (.seq .no (.block (.loop jCQ .no))) .no)))))))) _
def s_l5Min_m (N : Nat) (b : Int) (a : Int) : Z13 :=
 (bif decide (b < a) then some b else some a)
theorem jDQ (N : Nat) : mK 277 ⟨⟨[pI, pI], []⟩, ⟨[pI], []⟩, c2A (s_l5Min_m N)⟩ :=
 mO ja Tryz.func277 rfl N .no _
def jCw : Sh := ⟨pS :: pS :: dz 3 (.mtk 600005 tI 3 true :: pI :: dz 74 []), []⟩
def jDJ : Sh := ⟨pS :: pS :: dz 3 (.mtk 600005 tI 3 true :: .dead :: pI :: dz 73 []), []⟩
def jDM : Sh := ⟨pS :: pS :: dz 3 (.mtk 600005 tI 3 true :: .dead :: pI :: pI :: pI :: dz 71 []), []⟩
def jBZ : Sh := ⟨pS :: pS :: dz 3 (.mtk 600005 tI 3 true :: .dead :: pI :: .dead :: pI :: pI :: dz 70 []), []⟩
def s_l5Far_m (N : Nat) (L : List UInt8) (d : List UInt8) : Z13 :=
 (if fits ((d.length : Int) + 1) then if ((d.length : Int) + 1) = ((d.length : Int) + 1) ∧ 0 ≤ ((d.length : Int) + 1) ∧ ((d.length : Int) + 1) * 8 ≤ 140737488355328 ∧ ((d.length : Int) + 1) ≤ 140737488355328 then iter (fun H (v, q, j, c) => bif decide (c ≤ (q.length : Int)) then if 0 ≤ c ∧ c < (j.length : Int) then oB (j[c.toNat]?) fun R => (if fits (c + 1) then H (v, q, (j.set c.toNat c), (c + 1)) else none) else none else iter (fun A (r, k, f, l) => bif decide (l < (r.length : Int)) then if 0 ≤ (0 : Int) ∧ (0 : Int) < (f.length : Int) then oB (f[(0 : Int).toNat]?) fun E => (if fits (l + 1) then if 0 ≤ (0 : Int) ∧ (0 : Int) < (f.length : Int) then oB (f[(0 : Int).toNat]?) fun S => (iter (fun I (m, i, p, h, o, n) => bif decide (n < (i.length : Int)) then meet (fun (e : Z17) => match e with | (P, G, b, O, a, D) => if fits (a + 1) then if 0 ≤ (a + 1) ∧ (a + 1) < (b.length : Int) then oB (b[(a + 1).toNat]?) fun z => (if fits (a + 1) then if 0 ≤ a ∧ a < (b.length : Int) then oB (b[a.toNat]?) fun y => (if fits (a + 1) then if 0 ≤ (a + 1) ∧ (a + 1) < (b.length : Int) then oB (b[(a + 1).toNat]?) fun x => (oB (s_l5Min_m N y x) fun u => if fits (u + 1) then oB (s_l5Min_m N D (u + 1)) fun B => (if 0 ≤ (a + 1) ∧ (a + 1) < (b.length : Int) then oB (b[(a + 1).toNat]?) fun Q => (if fits (a + 1) then I (P, G, (b.set (a + 1).toNat B), O, z, (a + 1)) else none) else none) else none) else none else none) else none else none) else none else none) fun t => (oB (idx m h) fun w => oB (idx i n) fun K => bif !decide ((w.toNat : Int) = (K.toNat : Int)) then if fits (o + 1) then t (m, i, p, h, n, (o + 1)) else none else t (m, i, p, h, n, o)) else if fits (h + 1) then A (m, i, p, (h + 1)) else none) N (r, k, (f.set (0 : Int).toNat (l + 1)), l, E, (0 : Int))) else none else none) else none else if 0 ≤ (k.length : Int) ∧ (k.length : Int) < (f.length : Int) then oB (f[(k.length : Int).toNat]?) fun C => (some C) else none) N (v, q, j, (0 : Int))) N (L, d, (List.replicate ((d.length : Int) + 1).toNat 0), (0 : Int)) else none else none)
theorem jBt (N : Nat) : mK 221 ⟨⟨[pS, pS], []⟩, ⟨[pI], []⟩, c2A (s_l5Far_m N)⟩ :=
 mO (fC (jDQ N) ja) Tryz.func221 rfl N (.seq .no (.seq .no (.seq (.seq .no (.block (.loop jCw .no))) (.seq (.seq .no (.block (.loop jDJ (.seq .no (.seq (.block (.seq .no (.seq .no (.seq .no (.block (.loop jDM (.seq .no (.seq (.block (.seq .no (.meet jBZ .no .no))) .no)))))))) .no))))) .no)))) _ (wr := [14])
def jC5 : Sh := ⟨.dead :: .dead :: pI :: .box 3 0 :: .box 4 0 :: .dead :: .dead :: pI :: pI :: dz 49 [], [(3, false, [.pv Y2, .pv Y4]), (4, false, [pI, pS, .pv (.sl .str), pI, pI, .pv (.sl .q)])]⟩
def jx5 (N : Nat) (r : List Z2) (q : List Z1) (w : Int) (t : List UInt8) (z : List Z0) (A : Int) (B : Int) (x : List DQ) (y : Int) : Z13 :=
 (iter (fun l (f, i, a, e, b, k, d, j, h, m, n) => bif decide (a < (b.length : Int)) then oB (idx b a) fun p => (oB (idx j 0) fun v => oB (s_l5Far_m N p.2.1 v) fun c => bif !decide (p.1 = d) then if fits (a + 1) then l (f, i, (a + 1), e, b, k, d, j, h, m, n) else none else bif decide (h < c) then if fits (a + 1) then l (f, i, (a + 1), e, b, k, d, j, h, m, n) else none else oB (s_l12Points_m N e b d p.2.1 f) fun o => if fits (3 - c) then if fits (o * (3 - c)) then if 3 ≠ 0 then if fits ((o * (3 - c)).tdiv 3) then bif decide (i < ((o * (3 - c)).tdiv 3)) then if fits (a + 1) then l (f, ((o * (3 - c)).tdiv 3), (a + 1), e, b, k, d, j, h, m, n) else none else (if fits (a + 1) then l (f, i, (a + 1), e, b, k, d, j, h, m, n) else none) else none else none else none else none) else some i) N (y, (0 : Int), (0 : Int), r, q, w, t, z, A, B, x))
theorem jCb (N : Nat) : mK 151 ⟨⟨[.agg [.pv Y2, .pv Y4], .agg [pI, pS, .pv (.sl .str), pI, pI, .pv (.sl .q)], pI], []⟩, ⟨[pI], []⟩, c9A (jx5 N)⟩ :=
 mO (fC (jBt N) (fC (jrZ N) ja)) Tryz.func151 rfl N (.seq .no (.seq .no (.seq (.seq .no (.block (.loop jC5 .no))) .no))) _
def jxB (N : Nat) : (D : Nat) → Z0 → Z0 → Z8
 | 0, _, _ => none
 | D + 1, p, s =>
 bif decide (p = ([] : List UInt8)) then
 some (decide (s = ([] : List UInt8)))
 else
 oB (idx p 0) fun c =>
 bif decide ((c.toNat : Int) = 42) then
 oB (cut p 1 (p.length : Int)) fun y =>
 (oB (jxB N D y s) fun r =>
 bif r then
 some true
 else
 bif !decide (s = ([] : List UInt8)) then
 oB (cut s 1 (s.length : Int)) fun y2 =>
 (oB (jxB N D p y2) fun r2 =>
 some r2)
 else
 some false)
 else
 bif !decide (s = ([] : List UInt8)) then
 oB (idx p 0) fun c2 =>
 (bif decide ((c2.toNat : Int) = 63) then
 oB (cut p 1 (p.length : Int)) fun y3 =>
 (oB (cut s 1 (s.length : Int)) fun y4 =>
 oB (jxB N D y3 y4) fun r3 =>
 some r3)
 else
 oB (idx p 0) fun c3 =>
 oB (idx s 0) fun c4 =>
 bif decide ((c3.toNat : Int) = (c4.toNat : Int)) then
 oB (cut p 1 (p.length : Int)) fun y5 =>
 (oB (cut s 1 (s.length : Int)) fun y6 =>
 oB (jxB N D y5 y6) fun r4 =>
 some r4)
 else
 some false)
 else
 some false
def jyr (N D : Nat) : Model := ⟨⟨[pS, pS], []⟩, ⟨[pB], []⟩, c2A (jxB N D)⟩
theorem jDg (N D : Nat) (ih : mK 222 (jyr N D)) : mK 222 (jyr N (D + 1)) :=
 mO (fC ih ja) Tryz.func222 rfl N .no (jyr N (D + 1))
theorem jzM (N : Nat) : ∀ D, mK 222 (jyr N D)
 | 0 => modelOk_none ⟨_, Tryz.func222, by decide, by kernel_rfl⟩ _ (fun a => rfl)
 | D + 1 => jDg N D (jzM N D)
def jBi : Sh := ⟨.dead :: .dead :: pI :: .box 3 0 :: .box 4 0 :: .dead :: .dead :: pI :: dz 38 [], [(3, false, [.pv Y2, .pv Y4]), (4, false, [pI, pS, .pv (.sl .str), pI, pI, .pv (.sl .q)])]⟩
def jyd (N : Nat) (o : List Z2) (n : List Z1) (t : Int) (p : List UInt8) (w : List Z0) (x : Int) (y : Int) (u : List DQ) (v : Int) : Z8 :=
 (iter (fun i (e, a, d, b, h, c, f, l, j, k) => bif decide (a < (b.length : Int)) then oB (idx b a) fun m => (bif decide (m.1 = c) then oB (idx f 0) fun r => (oB (jxB N N r m.2.1) fun z => bif z then oB (s_l12At_m N d b c m.2.1 e) fun A => (bif decide ((0 : Int) < (A.length : Int)) then some true else if fits (a + 1) then i (e, (a + 1), d, b, h, c, f, l, j, k) else none) else if fits (a + 1) then i (e, (a + 1), d, b, h, c, f, l, j, k) else none) else if fits (a + 1) then i (e, (a + 1), d, b, h, c, f, l, j, k) else none) else some false) N (v, (0 : Int), o, n, t, p, w, x, y, u))
theorem jCi (N : Nat) : mK 153 ⟨⟨[.agg [.pv Y2, .pv Y4], .agg [pI, pS, .pv (.sl .str), pI, pI, .pv (.sl .q)], pI], []⟩, ⟨[pB], []⟩, c9A (jyd N)⟩ :=
 mO (fC (jzM N N) (fC (jn1 N) ja)) Tryz.func153 rfl N (.seq .no (.seq (.seq .no (.block (.loop jBi .no))) .no)) _
def jyV (N : Nat) (a : Bool) : Z13 :=
 (bif a then some 100 else some 0)
theorem jCo (N : Nat) : mK 152 ⟨⟨[pB], []⟩, ⟨[pI], []⟩, c1A (jyV N)⟩ :=
 mO ja Tryz.func152 rfl N .no _
def jA0 : Sh := ⟨.dead :: pI :: .box 2 0 :: .dead :: .box 4 0 :: pI :: dz 21 [], [(2, false, [.pv Y2, .pv Y4]), (4, false, [pI, .nils, .nils])]⟩
def jyv (N : Nat) (f : List Z2) (e : List Z1) (l : Int) : Option Z2 :=
 (iter (fun k (d, a, b, j, h) => bif decide (a < (b.length : Int)) then oB (idx b a) fun m => (bif decide (m.1 = d) then oB (idx b a) fun c => (some (c.1, c.2.1, c.2.2)) else if fits (a + 1) then k (d, (a + 1), b, j, h) else none) else some (0, ([] : Z14), ([] : Z9))) N (l, (0 : Int), f, e, (0 : Int)))
theorem jDn (N : Nat) : mK 155 ⟨⟨[.agg [.pv Y2, .pv Y4], pI], []⟩, ⟨[.agg [pI, .pv Y19, .pv Y15]], []⟩, c3A (jyv N)⟩ :=
 mO ja Tryz.func155 rfl N (.seq .no (.seq (.seq .no (.block (.loop jA0 .no))) .no)) _
def jym (N : Nat) (k : Int) (l : Z14) (j : Z9) (m : List UInt8) : Z13 :=
 (iter (fun i (c, a, e, d, b) => bif decide (a < (b.length : Int)) then oB (idx b a) fun n => (bif decide (n.1 = c) then oB (idx b a) fun h => (some h.2) else if fits (a + 1) then i (c, (a + 1), e, d, b) else none) else some (-1)) N (m, (0 : Int), k, l, j))
theorem jDS (N : Nat) : mK 154 ⟨⟨[.agg [pI, .pv Y19, .pv Y15], pS], []⟩, ⟨[pI], []⟩, c4A (jym N)⟩ :=
 mO ja Tryz.func154 rfl N (.seq .no (.seq (.seq .no (.block (.loop jl8 .no))) .no)) _
def jDX : Sh := ⟨dz 3 (pI :: .box 4 0 :: .box 5 0 :: .box 6 0 :: .dead :: .dead :: pI :: pI :: dz 111 []), [(4, false, [.pv (.sl .str), .pv Y16]), (5, false, [.pv Y2, .pv Y4]), (6, false, [pI, pS, .pv (.sl .str), pI, pI, .pv (.sl .q)])]⟩
def s_l12Score_m (N : Nat) : (D : Nat) → (List Z0) → (List Z4) → (List Z2) → (List Z1) → Int → Z0 → (List Z0) → Int → Int → (List DQ) → Int → Z13
 | 0, _, _, _, _, _, _, _, _, _, _, _ => none
 | D + 1, c, c2, s, s2, q, q2, q3, q4, q5, q6, id =>
 bif decide (q = 1) then
 some 100
 else
 bif decide (q = 2) then
 oB (idx q3 0) fun e =>
 (oB (jyC N c c2 e) fun r =>
 oB (s_l12Points_m N s s2 q2 r id) fun r2 =>
 some r2)
 else
 bif decide (q = 3) then
 oB (jx2 N c c2 s s2 q q2 q3 q4 q5 q6 id) fun r3 =>
 (some r3)
 else
 bif decide (q = 4) then
 oB (jx5 N s s2 q q2 q3 q4 q5 q6 id) fun r4 =>
 (some r4)
 else
 bif decide (q = 5) then
 oB (jyd N s s2 q q2 q3 q4 q5 q6 id) fun r5 =>
 (oB (jyV N r5) fun r6 =>
 some r6)
 else
 bif decide (q = 6) then
 oB (jyv N s s2 id) fun r7 =>
 (oB (jym N r7.1 r7.2.1 r7.2.2 q2) fun r8 =>
 oB (jJ N r8 q4 q5) fun r9 =>
 oB (jyV N r9) fun r10 =>
 some r10)
 else
 bif decide (q = 10) then
 oB (idx q6 0) fun e2 =>
 (oB (s_l12Score_m N D c c2 s s2 e2.kind e2.field e2.words e2.lo e2.hi e2.kids id) fun r11 =>
 if fits (q4 * r11) then some (q4 * r11) else none)
 else
 bif decide (q = 9) then
 oB (idx q6 1) fun e3 =>
 (oB (s_l12Score_m N D c c2 s s2 e3.kind e3.field e3.words e3.lo e3.hi e3.kids id) fun r12 =>
 bif decide ((0 : Int) < r12) then
 some 0
 else
 oB (idx q6 0) fun e4 =>
 oB (s_l12Score_m N D c c2 s s2 e4.kind e4.field e4.words e4.lo e4.hi e4.kids id) fun r13 =>
 some r13)
 else
 iter (fun go (g : Int × Int × Int × (List Z0) × (List Z4) × (List Z2) × (List Z1) × Int × Z0 × (List Z0) × Int × Int × (List DQ)) =>
 match g with
 | (id2, sum, i, c3, c4, s3, s4, q7, q8, q9, q10, q11, q12) =>
 bif decide (i < (q12.length : Int)) then
 oB (idx q12 i) fun e5 =>
 (oB (s_l12Score_m N D c3 c4 s3 s4 e5.kind e5.field e5.words e5.lo e5.hi e5.kids id2) fun r14 =>
 bif decide (r14 = 0) then
 bif decide (q7 = 7) then
 some 0
 else
 (if fits (sum + r14) then if fits (i + 1) then go (id2, (sum + r14), (i + 1), c3, c4, s3, s4, q7, q8, q9, q10, q11, q12) else none else none)
 else
 if fits (sum + r14) then if fits (i + 1) then go (id2, (sum + r14), (i + 1), c3, c4, s3, s4, q7, q8, q9, q10, q11, q12) else none else none)
 else
 some sum) N (id, 0, 0, c, c2, s, s2, q, q2, q3, q4, q5, q6)
def jyz (N D : Nat) : Model := ⟨⟨[.agg [.pv (.sl .str), .pv Y16], .agg [.pv Y2, .pv Y4], .agg [pI, pS, .pv (.sl .str), pI, pI, .pv (.sl .q)], pI], []⟩, ⟨[pI], []⟩, c11A (s_l12Score_m N D)⟩
theorem jBH (N D : Nat) (ih : mK 69 (jyz N D)) : mK 69 (jyz N (D + 1)) :=
 mO (fC ih (fC (jCy N) (fC (jrZ N) (fC (jAL N) (fC (jCb N) (fC (jCi N) (fC (jCo N) (fC (jDn N) (fC (jDS N) (fC (jcL N) ja)))))))))) Tryz.func69 rfl N (.seq .no (.seq .no (.seq .no (.seq (.seq .no (.block (.loop jDX .no))) .no)))) (jyz N (D + 1))
theorem jz7 (N : Nat) : ∀ D, mK 69 (jyz N D)
 | 0 => modelOk_none ⟨_, Tryz.func69, by decide, by kernel_rfl⟩ _ (fun a => rfl)
 | D + 1 => jBH N D (jz7 N D)
def jaw (N : Nat) (a : Int) : Z8 :=
 (bif decide ((97 : Int) ≤ a) then bif decide (a ≤ 122) then some true else (bif decide ((48 : Int) ≤ a) then some (decide (a ≤ 57)) else some false) else bif decide ((48 : Int) ≤ a) then some (decide (a ≤ 57)) else some false)
theorem jeK (N : Nat) : mK 167 ⟨⟨[.pv (.int .u8)], []⟩, ⟨[pB], []⟩, c1A (jaw N)⟩ :=
 mO ja Tryz.func167 rfl N .no _
def jm (N : Nat) (a : Int) (b : Int) (c : Int) : Z8 :=
 (bif decide (b ≤ a) then some (decide (a ≤ c)) else some false)
theorem jY (N : Nat) : mK 91 ⟨⟨[pI, pI, pI], []⟩, ⟨[pB], []⟩, c3A (jm N)⟩ :=
 mO ja Tryz.func91 rfl N .no _
def jqW : Sh := ⟨pS :: dz 4 (pI :: pI :: dz 11 []), []⟩
def jO (N : Nat) (c : List UInt8) : Z8 :=
 (iter (fun h (b, d, a) => bif decide (a < d) then oB (idx b a) fun e => (oB (jaw N (e.toNat : Int)) fun i => bif !i then some false else if fits (a + 1) then h (b, d, (a + 1)) else none) else oB (jm N (b.length : Int) 1 12) fun j => some j) N (c, (c.length : Int), (0 : Int)))
theorem jcM (N : Nat) : mK 89 ⟨⟨[pS], []⟩, ⟨[pB], []⟩, c1A (jO N)⟩ :=
 mO (fC (jeK N) (fC (jY N) ja)) Tryz.func89 rfl N (.seq .no (.seq (.seq .no (.block (.loop jqW .no))) .no)) _
def jDx : Sh := ⟨pS :: dz 4 (pI :: pI :: dz 23 []), []⟩
def jxV (N : Nat) (e : List UInt8) : Z8 :=
 (iter (fun d (b, c, a) => bif decide (a < c) then oB (idx b a) fun f => (oB (jaw N (f.toNat : Int)) fun i => bif !i then oB (idx b a) fun l => (bif !decide ((l.toNat : Int) = 42) then oB (idx b a) fun k => (bif !decide ((k.toNat : Int) = 63) then some false else if fits (a + 1) then d (b, c, (a + 1)) else none) else if fits (a + 1) then d (b, c, (a + 1)) else none) else if fits (a + 1) then d (b, c, (a + 1)) else none) else oB (jm N (b.length : Int) 1 12) fun j => some j) N (e, (e.length : Int), (0 : Int)))
theorem jz9 (N : Nat) : mK 190 ⟨⟨[pS], []⟩, ⟨[pB], []⟩, c1A (jxV N)⟩ :=
 mO (fC (jeK N) (fC (jY N) ja)) Tryz.func190 rfl N (.seq .no (.seq (.seq .no (.block (.loop jDx .no))) .no)) _
def jBs : Sh := ⟨.dead :: pI :: .box 2 0 :: dz 90 (.pv (.sl .str) :: pI :: pI :: dz 39 []), [(2, false, [pI, pS, .pv (.sl .str), pI, pI, .pv (.sl .q)])]⟩
def jC6 : Sh := ⟨.dead :: pI :: dz 121 (.pv (.sl .q) :: pI :: pI :: dz 9 []), []⟩
def jDY : Sh := ⟨.dead :: pI :: .box 2 0 :: dz 132 [], [(2, false, [pI, pS, .pv (.sl .str), pI, pI, .pv (.sl .q)])]⟩
def jzZ : Sh := ⟨.dead :: pI :: .box 2 0 :: .dead :: .dead :: .box 5 0 :: dz 129 [], [(2, false, [pI, pS, .pv (.sl .str), pI, pI, .pv (.sl .q)]), (5, false, [pB, pI, pI, pI, pI, pB, pI, pI])]⟩
def jxE (N : Nat) : (D : Nat) → Int → Z0 → (List Z0) → Int → Int → (List DQ) → Int → Z8
 | 0, _, _, _, _, _, _, _ => none
 | D + 1, q, q2, q3, q4, q5, q6, deep =>
 meet (fun (g : Z18) =>
 match g with
 | (deep2, q7, q8, q9, q10, q11, q12, x, x2, x3, x4, x5, x6, x7, x8) =>
 meet (fun (g : Z18) =>
 match g with
 | (deep3, q13, q14, q15, q16, q17, q18, x9, x10, x11, x12, x13, x14, x15, x16) =>
 meet (fun (g : Int × Int × Z0 × (List Z0) × Int × Int × (List DQ)) =>
 match g with
 | (deep4, q19, q20, q21, q22, q23, q24) =>
 iter (fun go (g : Int × (List Z0) × Int × Int × Int × Z0 × (List Z0) × Int × Int × (List DQ)) =>
 match g with
 | (deep5, t93, t94, t95, q25, q26, q27, q28, q29, q30) =>
 bif decide (t95 < t94) then
 oB (idx t93 t95) fun e =>
 (bif decide (q25 = 5) then
 oB (jxV N e) fun r6 =>
 (bif !r6 then
 some false
 else
 oB (jO N e) fun r7 =>
 bif r7 then
 some false
 else
 bif !decide (q25 = 5) then
 oB (jO N e) fun r8 =>
 (bif !r8 then
 some false
 else
 if fits (t95 + 1) then go (deep5, t93, t94, (t95 + 1), q25, q26, q27, q28, q29, q30) else none)
 else
 if fits (t95 + 1) then go (deep5, t93, t94, (t95 + 1), q25, q26, q27, q28, q29, q30) else none)
 else
 bif !decide (q25 = 5) then
 oB (jO N e) fun r9 =>
 (bif !r9 then
 some false
 else
 if fits (t95 + 1) then go (deep5, t93, t94, (t95 + 1), q25, q26, q27, q28, q29, q30) else none)
 else
 if fits (t95 + 1) then go (deep5, t93, t94, (t95 + 1), q25, q26, q27, q28, q29, q30) else none)
 else
 iter (fun go2 (g : Int × (List DQ) × Int × Int) =>
 match g with
 | (deep6, t123, t124, t125) =>
 bif decide (t125 < t124) then
 oB (idx t123 t125) fun e2 =>
 (if fits (deep6 - 1) then oB (jxE N D e2.kind e2.field e2.words e2.lo e2.hi e2.kids (deep6 - 1)) fun r10 =>
 (bif !r10 then
 some false
 else
 if fits (t125 + 1) then go2 (deep6, t123, t124, (t125 + 1)) else none) else none)
 else
 some true) N (deep5, q30, (q30.length : Int), 0)) N (deep4, q21, (q21.length : Int), 0, q19, q20, q21, q22, q23, q24)) fun J3 =>
 bif x14 then
 oB (jm N q17 q16 999999999) fun r5 =>
 (bif !r5 then
 some false
 else
 bif !x14 then
 bif !decide (q17 = 0) then
 some false
 else
 (J3 (deep3, q13, q14, q15, q16, q17, q18))
 else
 J3 (deep3, q13, q14, q15, q16, q17, q18))
 else
 bif !x14 then
 bif !decide (q17 = 0) then
 some false
 else
 (J3 (deep3, q13, q14, q15, q16, q17, q18))
 else
 J3 (deep3, q13, q14, q15, q16, q17, q18)) fun J2 =>
 oB (jm N (q9.length : Int) x2 x3) fun r2 =>
 bif !r2 then
 some false
 else
 oB (jm N (q12.length : Int) x7 x8) fun r3 =>
 bif !r3 then
 some false
 else
 oB (jm N q10 x4 x5) fun r4 =>
 bif !r4 then
 some false
 else
 J2 (deep2, q7, q8, q9, q10, q11, q12, x, x2, x3, x4, x5, x6, x7, x8)) fun J =>
 bif !((mget tI (.pair .bool (.pair tI (.pair tI (.pair tI (.pair tI (.pair .bool Y14)))))) gm_shapes q).isSome) then
 some false
 else
 bif decide (deep < 1) then
 some false
 else
 bif !((((mget tI (.pair .bool (.pair tI (.pair tI (.pair tI (.pair tI (.pair .bool Y14)))))) gm_shapes q).getD (false, (0, (0, (0, (0, (false, (0, 0)))))))).1) == (!decide (q2 = ([] : List UInt8)))) then
 some false
 else
 bif ((mget tI (.pair .bool (.pair tI (.pair tI (.pair tI (.pair tI (.pair .bool Y14)))))) gm_shapes q).getD (false, (0, (0, (0, (0, (false, (0, 0)))))))).1 then
 oB (jO N q2) fun r =>
 (bif !r then
 some false
 else
 J (deep, q, q2, q3, q4, q5, q6, ((mget tI (.pair .bool (.pair tI (.pair tI (.pair tI (.pair tI (.pair .bool Y14)))))) gm_shapes q).getD (false, (0, (0, (0, (0, (false, (0, 0)))))))).1, (((mget tI (.pair .bool (.pair tI (.pair tI (.pair tI (.pair tI (.pair .bool Y14)))))) gm_shapes q).getD (false, (0, (0, (0, (0, (false, (0, 0)))))))).2).1, ((((mget tI (.pair .bool (.pair tI (.pair tI (.pair tI (.pair tI (.pair .bool Y14)))))) gm_shapes q).getD (false, (0, (0, (0, (0, (false, (0, 0)))))))).2).2).1, (((((mget tI (.pair .bool (.pair tI (.pair tI (.pair tI (.pair tI (.pair .bool Y14)))))) gm_shapes q).getD (false, (0, (0, (0, (0, (false, (0, 0)))))))).2).2).2).1, ((((((mget tI (.pair .bool (.pair tI (.pair tI (.pair tI (.pair tI (.pair .bool Y14)))))) gm_shapes q).getD (false, (0, (0, (0, (0, (false, (0, 0)))))))).2).2).2).2).1, (((((((mget tI (.pair .bool (.pair tI (.pair tI (.pair tI (.pair tI (.pair .bool Y14)))))) gm_shapes q).getD (false, (0, (0, (0, (0, (false, (0, 0)))))))).2).2).2).2).2).1, ((((((((mget tI (.pair .bool (.pair tI (.pair tI (.pair tI (.pair tI (.pair .bool Y14)))))) gm_shapes q).getD (false, (0, (0, (0, (0, (false, (0, 0)))))))).2).2).2).2).2).2).1, ((((((((mget tI (.pair .bool (.pair tI (.pair tI (.pair tI (.pair tI (.pair .bool Y14)))))) gm_shapes q).getD (false, (0, (0, (0, (0, (false, (0, 0)))))))).2).2).2).2).2).2).2))
 else
 J (deep, q, q2, q3, q4, q5, q6, ((mget tI (.pair .bool (.pair tI (.pair tI (.pair tI (.pair tI (.pair .bool Y14)))))) gm_shapes q).getD (false, (0, (0, (0, (0, (false, (0, 0)))))))).1, (((mget tI (.pair .bool (.pair tI (.pair tI (.pair tI (.pair tI (.pair .bool Y14)))))) gm_shapes q).getD (false, (0, (0, (0, (0, (false, (0, 0)))))))).2).1, ((((mget tI (.pair .bool (.pair tI (.pair tI (.pair tI (.pair tI (.pair .bool Y14)))))) gm_shapes q).getD (false, (0, (0, (0, (0, (false, (0, 0)))))))).2).2).1, (((((mget tI (.pair .bool (.pair tI (.pair tI (.pair tI (.pair tI (.pair .bool Y14)))))) gm_shapes q).getD (false, (0, (0, (0, (0, (false, (0, 0)))))))).2).2).2).1, ((((((mget tI (.pair .bool (.pair tI (.pair tI (.pair tI (.pair tI (.pair .bool Y14)))))) gm_shapes q).getD (false, (0, (0, (0, (0, (false, (0, 0)))))))).2).2).2).2).1, (((((((mget tI (.pair .bool (.pair tI (.pair tI (.pair tI (.pair tI (.pair .bool Y14)))))) gm_shapes q).getD (false, (0, (0, (0, (0, (false, (0, 0)))))))).2).2).2).2).2).1, ((((((((mget tI (.pair .bool (.pair tI (.pair tI (.pair tI (.pair tI (.pair .bool Y14)))))) gm_shapes q).getD (false, (0, (0, (0, (0, (false, (0, 0)))))))).2).2).2).2).2).2).1, ((((((((mget tI (.pair .bool (.pair tI (.pair tI (.pair tI (.pair tI (.pair .bool Y14)))))) gm_shapes q).getD (false, (0, (0, (0, (0, (false, (0, 0)))))))).2).2).2).2).2).2).2)
def jyl (N D : Nat) : Model := ⟨⟨[.agg [pI, pS, .pv (.sl .str), pI, pI, .pv (.sl .q)], pI], []⟩, ⟨[pB], []⟩, c7A (jxE N D)⟩
theorem jAF (N D : Nat) (ih : mK 119 (jyl N D)) : mK 119 (jyl N (D + 1)) :=
 mO (fC ih (fC (jcM N) (fC (jY N) (fC (jz9 N) ja)))) Tryz.func119 rfl N (.seq .no (.seq .no (.meet jzZ .no (.meet jzZ .no (.meet jDY .no (.seq (.seq .no (.block (.loop jBs .no))) (.seq (.seq .no (.block (.loop jC6 .no))) .no))))))) (jyl N (D + 1))
theorem jzh (N : Nat) : ∀ D, mK 119 (jyl N D)
 | 0 => modelOk_none ⟨_, Tryz.func119, by decide, by kernel_rfl⟩ _ (fun a => rfl)
 | D + 1 => jAF N D (jzh N D)
def i_QueryOk_m (N : Nat) (b : Int) (a : List UInt8) (e : List Z0) (f : Int) (h : Int) (c : List DQ) : Z8 :=
 (oB (jxE N N b a e f h c 4) fun d => some d)
theorem jCN (N : Nat) : mK 43 ⟨⟨[.agg [pI, pS, .pv (.sl .str), pI, pI, .pv (.sl .q)]], []⟩, ⟨[pB], []⟩, c6A (i_QueryOk_m N)⟩ :=
 mO (fC (jzh N N) ja) Tryz.func43 rfl N .no _
def jmc : Sh := ⟨.pv (.sl .str) :: dz 4 (.pv (.sl .str) :: pI :: pI :: dz 21 []), []⟩
def jb2 (N : Nat) (b : List Z0) : Z8 :=
 (iter (fun f (c, e, d, a) => bif decide (a < d) then oB (idx e a) fun h => (oB (jO N h) fun k => bif !k then some false else bif decide ((0 : Int) < a) then if fits (a - 1) then oB (idx c (a - 1)) fun j => (bif !Op.bytesLess j h then some false else if fits (a + 1) then f (c, e, d, (a + 1)) else none) else none else if fits (a + 1) then f (c, e, d, (a + 1)) else none) else some true) N (b, b, (b.length : Int), (0 : Int)))
theorem jtw (N : Nat) : mK 90 ⟨⟨[.pv (.sl .str)], []⟩, ⟨[pB], []⟩, c1A (jb2 N)⟩ :=
 mO (fC (jcM N) ja) Tryz.func90 rfl N (.seq .no (.seq (.seq .no (.block (.loop jmc .no))) .no)) _
def jdF (N : Nat) (a : List UInt8) (b : List UInt8) : Z8 :=
 (bif decide ((b.length : Int) ≤ (a.length : Int)) then if fits ((a.length : Int) - (b.length : Int)) then oB (cut a ((a.length : Int) - (b.length : Int)) (a.length : Int)) fun c => (some (decide (c = b))) else none else some false)
theorem jpU (N : Nat) : mK 233 ⟨⟨[pS, pS], []⟩, ⟨[pB], []⟩, c2A (jdF N)⟩ :=
 mO ja Tryz.func233 rfl N .no _
def jcN (N : Nat) (b : List UInt8) (c : List UInt8) : Z8 :=
 (oB (jdF N b c) fun a => some a)
theorem jsu (N : Nat) : mK 168 ⟨⟨[pS, pS], []⟩, ⟨[pB], []⟩, c2A (jcN N)⟩ :=
 mO (fC (jpU N) ja) Tryz.func168 rfl N .no _
def jod : Sh := ⟨pS :: .dead :: .dead :: pB :: dz 32 [], []⟩
def jnf : Sh := ⟨pS :: .dead :: .dead :: pB :: dz 6 (.own 600010 .str 9 true :: pI :: pI :: dz 23 []), []⟩
def jaB (N : Nat) (j : List UInt8) : Option (Z0) :=
 (oB (jO N j) fun n => bif !n then some ([] : List UInt8) else iter (fun l (i, o) => bif o then iter (fun k (a, e, h, d, b) => bif decide (b < d) then oB (idx h b) fun c => (oB (jcN N a c) fun p => bif p then if fits ((a.length : Int) - (c.length : Int)) then bif decide ((3 : Int) ≤ ((a.length : Int) - (c.length : Int))) then if fits ((a.length : Int) - (c.length : Int)) then oB (cut a 0 ((a.length : Int) - (c.length : Int))) fun m => (l (m, true)) else none else (if fits (b + 1) then k (a, e, h, d, (b + 1)) else none) else none else if fits (b + 1) then k (a, e, h, d, (b + 1)) else none) else l (a, e)) N (i, false, ([([105, 110, 103] : List UInt8), ([101, 100] : List UInt8), ([101, 115] : List UInt8), ([108, 121] : List UInt8), ([115] : List UInt8)] : List Z0), (([([105, 110, 103] : List UInt8), ([101, 100] : List UInt8), ([101, 115] : List UInt8), ([108, 121] : List UInt8), ([115] : List UInt8)] : List Z0).length : Int), (0 : Int)) else some i) N (j, true))
theorem jio (N : Nat) : mK 92 ⟨⟨[pS], []⟩, ⟨[pS], []⟩, c1A (jaB N)⟩ :=
 mO (fC (jcM N) (fC (jsu N) ja)) Tryz.func92 rfl N (.seq .no (.seq .no (.seq (.seq .no (.block (.loop jod (.seq .no (.block (.seq .no (.seq .no (.block (.loop jnf .no))))))))) .no))) _
def jkJ : Sh := ⟨.pv (.sl .str) :: pS :: dz 5 (pI :: pI :: dz 10 []), []⟩
def jdH (N : Nat) (c : List Z0) (i : List UInt8) : Z13 :=
 (iter (fun h (b, e, d, a) => bif decide (a < d) then oB (idx b a) fun j => (bif decide (e = j) then some a else if fits (a + 1) then h (b, e, d, (a + 1)) else none) else some (-1)) N (c, i, (c.length : Int), (0 : Int)))
theorem jkZ (N : Nat) : mK 169 ⟨⟨[.pv (.sl .str), pS], []⟩, ⟨[pI], []⟩, c2A (jdH N)⟩ :=
 mO ja Tryz.func169 rfl N (.seq .no (.seq (.seq .no (.block (.loop jkJ .no))) .no)) _
def jao (N : Nat) (b : List Z0) (c : List UInt8) : Z8 :=
 (oB (jdH N b c) fun a => some (decide ((0 : Int) ≤ a)))
theorem jh5 (N : Nat) : mK 93 ⟨⟨[.pv (.sl .str), pS], []⟩, ⟨[pB], []⟩, c2A (jao N)⟩ :=
 mO (fC (jkZ N) ja) Tryz.func93 rfl N .no _
def jmj : Sh := ⟨.dead :: .box 1 0 :: dz 22 (.pv Y16 :: pI :: pI :: dz 46 []), [(1, false, [.pv (.sl .str), .pv Y16])]⟩
def jrC : Sh := ⟨.dead :: .box 1 0 :: dz 22 (.pv Y16 :: pI :: pI :: dz 12 (pB :: dz 7 (pB :: .dead :: .dead :: .pv (.sl .str) :: pI :: pI :: dz 20 []))), [(1, false, [.pv (.sl .str), .pv Y16])]⟩
def jaj (N : Nat) (e : List Z0) (d : List Z4) : Z8 :=
 (bif decide ((6 : Int) < (e.length : Int)) then some false else oB (jb2 N e) fun D => bif !D then some false else bif decide ((4 : Int) < (d.length : Int)) then some false else iter (fun w (r, n, h, A, x) => bif decide (h < n) then oB (idx r h) fun a => (oB (jm N (a.1.length : Int) 1 3) fun E => bif !E then some false else oB (jO N a.2) fun l => bif !l then some false else oB (jaB N a.2) fun p => bif !decide (p = a.2) then some false else iter (fun C (q, t, i, z, B, m, k, c, j, o) => bif decide (c < k) then oB (idx m c) fun b => (oB (jO N b) fun u => bif !u then some false else oB (jaB N b) fun y => bif !decide (y = b) then some false else oB (jao N j b) fun v => bif v then some false else if fits (c + 1) then C (q, t, i, z, B, m, k, (c + 1), j, o) else none) else if fits (i + 1) then w (q, t, (i + 1), j, o) else none) N (r, n, h, (!l), (!decide (p = a.2)), a.1, (a.1.length : Int), (0 : Int), A, x)) else some true) N (d, (d.length : Int), (0 : Int), e, d))
theorem jdX (N : Nat) : mK 29 ⟨⟨[.agg [.pv (.sl .str), .pv Y16]], []⟩, ⟨[pB], []⟩, c2A (jaj N)⟩ :=
 mO (fC (jtw N) (fC (jY N) (fC (jcM N) (fC (jio N) (fC (jh5 N) ja))))) Tryz.func29 rfl N (.seq .no (.seq .no (.seq (.seq .no (.block (.loop jmj (.seq .no (.seq .no (.seq (.block (.seq .no (.seq .no (.seq .no (.block (.loop jrC .no)))))) .no)))))) .no))) _
def jtd : Sh := ⟨pS :: dz 4 (pI :: pI :: dz 16 []), []⟩
def jaF (N : Nat) (c : List UInt8) : Z8 :=
 (iter (fun h (b, d, a) => bif decide (a < d) then oB (idx b a) fun e => (bif decide ((e.toNat : Int) < 32) then some false else oB (idx b a) fun i => bif decide ((126 : Int) < (i.toNat : Int)) then some false else if fits (a + 1) then h (b, d, (a + 1)) else none) else some (decide ((b.length : Int) ≤ 160))) N (c, (c.length : Int), (0 : Int)))
theorem jdK (N : Nat) : mK 94 ⟨⟨[pS], []⟩, ⟨[pB], []⟩, c1A (jaF N)⟩ :=
 mO ja Tryz.func94 rfl N (.seq .no (.seq (.seq .no (.block (.loop jtd .no))) .no)) _
def jlC : Sh := ⟨.dead :: .box 1 0 :: dz 22 (.pv Y19 :: pI :: pI :: dz 66 []), [(1, false, [pI, .pv Y19, .pv Y15])]⟩
def jpt : Sh := ⟨.dead :: .box 1 0 :: dz 57 (.pv Y15 :: pI :: pI :: dz 31 []), [(1, false, [pI, .pv Y19, .pv Y15])]⟩
def jbx (N : Nat) (q : Int) (e : Z14) (u : Z9) : Z8 :=
 (oB (jm N q 1 9999) fun B => bif !B then some false else bif decide ((3 : Int) < (e.length : Int)) then some false else bif decide ((3 : Int) < (u.length : Int)) then some false else iter (fun p (n, j, a, h, d, c) => bif decide (a < j) then oB (idx n a) fun l => (oB (jO N l.1) fun C => bif !C then some false else oB (jaF N l.2) fun x => bif !x then some false else bif decide ((0 : Int) < a) then if fits (a - 1) then oB (idx d (a - 1)) fun y => (bif !Op.bytesLess y.1 l.1 then some false else if fits (a + 1) then p (n, j, (a + 1), h, d, c) else none) else none else if fits (a + 1) then p (n, j, (a + 1), h, d, c) else none) else iter (fun t (m, k, b, r, v, f) => bif decide (b < k) then oB (idx m b) fun o => (oB (jO N o.1) fun A => bif !A then some false else oB (jm N o.2 0 999999999) fun w => bif !w then some false else bif decide ((0 : Int) < b) then if fits (b - 1) then oB (idx f (b - 1)) fun z => (bif !Op.bytesLess z.1 o.1 then some false else if fits (b + 1) then t (m, k, (b + 1), r, v, f) else none) else none else if fits (b + 1) then t (m, k, (b + 1), r, v, f) else none) else some true) N (c, (c.length : Int), (0 : Int), h, d, c)) N (e, (e.length : Int), (0 : Int), q, e, u))
theorem jh0 (N : Nat) : mK 30 ⟨⟨[.agg [pI, .pv Y19, .pv Y15]], []⟩, ⟨[pB], []⟩, c3A (jbx N)⟩ :=
 mO (fC (jY N) (fC (jcM N) (fC (jdK N) ja))) Tryz.func30 rfl N (.seq .no (.seq .no (.seq (.seq .no (.block (.loop jlC .no))) (.seq (.seq .no (.block (.loop jpt .no))) .no)))) _
def jpj : Sh := ⟨.pv Y2 :: dz 4 (.pv Y2 :: pI :: pI :: dz 26 []), []⟩
def jbf (N : Nat) (d : List Z2) : Z8 :=
 (iter (fun h (b, f, e, a) => bif decide (a < e) then oB (idx f a) fun c => (oB (jbx N c.1 c.2.1 c.2.2) fun k => bif !k then some false else bif decide ((0 : Int) < a) then if fits (a - 1) then oB (idx b (a - 1)) fun j => (bif decide (c.1 ≤ j.1) then some false else if fits (a + 1) then h (b, f, e, (a + 1)) else none) else none else if fits (a + 1) then h (b, f, e, (a + 1)) else none) else some (decide ((b.length : Int) ≤ 16))) N (d, d, (d.length : Int), (0 : Int)))
theorem jjU (N : Nat) : mK 95 ⟨⟨[.pv Y2], []⟩, ⟨[pB], []⟩, c1A (jbf N)⟩ :=
 mO (fC (jh0 N) ja) Tryz.func95 rfl N (.seq .no (.seq (.seq .no (.block (.loop jpj .no))) .no)) _
def jbO (N : Nat) (c : Int) (b : Z14) (a : Z9) : Option Z2 :=
 (if room ([] : Z14).length b.length 32 then if room ([] : Z9).length a.length 24 then some (c, (([] : Z14) ++ b), (([] : Z9) ++ a)) else none else none)
theorem jrI (N : Nat) : mK 170 ⟨⟨[.agg [pI, .pv Y19, .pv Y15]], []⟩, ⟨[.agg [pI, .own 1 Y20 143 true, .own 2 Y17 145 true]], []⟩, c3A (jbO N)⟩ :=
 mO ja Tryz.func170 rfl N .no _
def joW : Sh := ⟨dz 3 (.own 600003 Y3 44 true :: dz 3 (.pv Y2 :: pI :: pI :: dz 10 [])), []⟩
def jbV (N : Nat) (d : List Z2) : Option ((List Z2)) :=
 (iter (fun j (b, e, h, a) => bif decide (a < h) then oB (idx e a) fun c => (oB (jbO N c.1 c.2.1 c.2.2) fun f => if room b.length ([f] : List Z2).length 56 then if fits (a + 1) then j ((b ++ ([f] : List Z2)), e, h, (a + 1)) else none else none) else some b) N (([] : List Z2), d, (d.length : Int), (0 : Int)))
theorem joC (N : Nat) : mK 96 ⟨⟨[.pv Y2], []⟩, ⟨[.own 1 Y3 44 true], []⟩, c1A (jbV N)⟩ :=
 mO (fC (jrI N) ja) Tryz.func96 rfl N (.seq .no (.seq .no (.seq (.seq .no (.block (.loop joW .no))) .no))) _
def jI (N : Nat) (a : Int) : Z13 :=
 (bif decide ((65 : Int) ≤ a) then bif decide (a ≤ 90) then some (IntKind.u8.wrap ((IntKind.u8.wrap (a + 97)) - 65)) else (some a) else some a)
theorem jmu (N : Nat) : mK 234 ⟨⟨[.pv (.int .u8)], []⟩, ⟨[.pv (.int .u8)], []⟩, c1A (jI N)⟩ :=
 mO ja Tryz.func234 rfl N .no _
def jpB : Sh := ⟨pS :: .dead :: .dead :: .own 600003 Y6 231 true :: pI :: dz 57 [], []⟩
def jo6 : Sh := ⟨pS :: .dead :: .dead :: .own 600003 Y6 231 true :: pI :: .box 5 0 :: .own 600006 (.int .u8) 5 true :: dz 55 [], [(5, false, [pS, pI, pI, pI])]⟩
def jct (N : Nat) (m : List UInt8) : Option ((List Z10)) :=
 (oB (jaF N m) fun y => bif !y then some ([] : List Z10) else iter (fun l (i, j, d) => bif decide (d < (i.length : Int)) then oB (idx i d) fun r => (oB (jI N (r.toNat : Int)) fun z => oB (jaw N z) fun u => bif !u then if fits (d + 1) then l (i, j, (d + 1)) else none else iter (fun p (c, f, a, b, q, h, e, o) => bif decide (a < (c.length : Int)) then oB (idx c a) fun w => (oB (jI N (w.toNat : Int)) fun x => oB (jaw N x) fun t => bif t then bif decide ((b.length : Int) < 12) then oB (idx c a) fun v => (oB (jI N (v.toNat : Int)) fun n => if room b.length ([n] : List Int).length 1 then if fits (a + 1) then p (c, f, (a + 1), (b ++ ([n] : List Int)), q, h, e, o) else none else none) else (if fits (a + 1) then p (c, f, (a + 1), b, q, h, e, o) else none) else if room f.length ([((bytesOf b), h, e, a)] : List Z10).length 40 then l (c, (f ++ ([((bytesOf b), h, e, a)] : List Z10)), a) else none) else if room f.length ([((bytesOf b), h, e, a)] : List Z10).length 40 then l (c, (f ++ ([((bytesOf b), h, e, a)] : List Z10)), a) else none) N (i, j, d, ([] : List Int), ([] : List UInt8), (j.length : Int), d, (0 : Int))) else some j) N (m, ([] : List Z10), (0 : Int)))
theorem jqc (N : Nat) : mK 171 ⟨⟨[pS], []⟩, ⟨[.own 1 Y6 231 true], []⟩, c1A (jct N)⟩ :=
 mO (fC (jdK N) (fC (jmu N) (fC (jeK N) ja))) Tryz.func171 rfl N (.seq .no (.seq .no (.seq .no (.seq (.seq .no (.block (.loop jpB (.seq .no (.block (.seq .no (.seq .no (.seq .no (.seq (.block (.loop jo6 .no)) .no))))))))) .no)))) _
def jty : Sh := ⟨.dead :: .pv Y15 :: pI :: .box 3 0 :: dz 3 (.pv (.opt Y18) :: dz 8 (pI :: pI :: dz 73 [])), [(3, false, [.pv (.sl .str), .pv Y16])]⟩
def jss : Sh := ⟨.dead :: .pv Y15 :: pI :: .box 3 0 :: dz 3 (.pv (.opt Y18) :: .dead :: .ptr Y18 :: pB :: dz 5 (pI :: pI :: dz 31 (pB :: dz 4 (.pv (.sl .str) :: pI :: pI :: dz 34 [])))), [(3, false, [.pv (.sl .str), .pv Y16])]⟩
def jbH (N : Nat) (c : List Z0) (c2 : List Z4) (terms : Z9) (at0 : Int) : Option ((Option Z4)) :=
 (iter (fun go (terms2, at02, best, t16, t17, c3, c4) => bif decide (t17 < t16) then oB (idx c4 t17) fun e => (if fits ((terms2.length : Int) - at02) then bif decide (((terms2.length : Int) - at02) < (e.1.length : Int)) then if fits (t17 + 1) then go (terms2, at02, best, t16, (t17 + 1), c3, c4) else none else (bif !(Option.isNone best) then oB best fun p => (bif decide ((e.1.length : Int) ≤ (p.1.length : Int)) then if fits (t17 + 1) then go (terms2, at02, best, t16, (t17 + 1), c3, c4) else none else iter (fun go2 (terms3, at03, best2, r, fits0, t162, t172, t49, t54, t55, t56, c5, c6) => bif decide (t56 < t55) then oB (idx t54 t56) fun e2 => (if fits (at03 + t56) then oB (idx terms3 (at03 + t56)) fun e3 => (bif fits0 then bif decide (e3.1 = e2) then oB (idx terms3 at03) fun e4 => (if fits (e4.2 + t56) then if fits (t56 + 1) then go2 (terms3, at03, best2, r, (decide (e3.2 = (e4.2 + t56))), t162, t172, t49, t54, t55, (t56 + 1), c5, c6) else none else none) else (if fits (t56 + 1) then go2 (terms3, at03, best2, r, false, t162, t172, t49, t54, t55, (t56 + 1), c5, c6) else none) else if fits (t56 + 1) then go2 (terms3, at03, best2, r, false, t162, t172, t49, t54, t55, (t56 + 1), c5, c6) else none) else none) else bif fits0 then if fits (t172 + 1) then go (terms3, at03, (some r), t162, (t172 + 1), c5, c6) else none else if fits (t172 + 1) then go (terms3, at03, best2, t162, (t172 + 1), c5, c6) else none) N (terms2, at02, best, e, true, t16, t17, (decide ((e.1.length : Int) ≤ (p.1.length : Int))), e.1, (e.1.length : Int), (0 : Int), c3, c4)) else iter (fun go3 (terms4, at04, best3, r2, fits02, t163, t173, t492, t542, t552, t562, c7, c8) => bif decide (t562 < t552) then oB (idx t542 t562) fun e5 => (if fits (at04 + t562) then oB (idx terms4 (at04 + t562)) fun e6 => (bif fits02 then bif decide (e6.1 = e5) then oB (idx terms4 at04) fun e7 => (if fits (e7.2 + t562) then if fits (t562 + 1) then go3 (terms4, at04, best3, r2, (decide (e6.2 = (e7.2 + t562))), t163, t173, t492, t542, t552, (t562 + 1), c7, c8) else none else none) else (if fits (t562 + 1) then go3 (terms4, at04, best3, r2, false, t163, t173, t492, t542, t552, (t562 + 1), c7, c8) else none) else if fits (t562 + 1) then go3 (terms4, at04, best3, r2, false, t163, t173, t492, t542, t552, (t562 + 1), c7, c8) else none) else none) else bif fits02 then if fits (t173 + 1) then go (terms4, at04, (some r2), t163, (t173 + 1), c7, c8) else none else if fits (t173 + 1) then go (terms4, at04, best3, t163, (t173 + 1), c7, c8) else none) N (terms2, at02, best, e, true, t16, t17, false, e.1, (e.1.length : Int), (0 : Int), c3, c4)) else none) else some best) N (terms, at0, (none : Option Z4), (c2.length : Int), (0 : Int), c, c2))
theorem jtv (N : Nat) : mK 172 ⟨⟨[.agg [.pv (.sl .str), .pv Y16], .pv Y15, pI], []⟩, ⟨[.pv (.opt Y18)], []⟩, c4A (jbH N)⟩ :=
 mO ja Tryz.func172 rfl N (.seq .no (.seq .no (.seq (.seq .no (.block (.loop jty (.seq .no (.seq .no (.seq (.block (.seq .no (.seq .no (.seq .no (.seq .no (.seq (.seq .no (.block (.loop jss .no))) .no)))))) .no)))))) .no))) _
def jlW : Sh := ⟨.dead :: .dead :: .box 2 0 :: .dead :: .dead :: .own 600005 Y17 151 true :: .own 600006 Y17 151 true :: dz 17 (.own 600024 Y6 231 true :: pI :: pI :: dz 67 []), [(2, false, [.pv (.sl .str), .pv Y16])]⟩
def jnt : Sh := ⟨.dead :: .dead :: .box 2 0 :: .dead :: .dead :: .own 600005 Y17 151 true :: .own 600006 Y17 151 true :: dz 3 (pI :: dz 83 []), [(2, false, [.pv (.sl .str), .pv Y16])]⟩
def jbw (N : Nat) (t : List Z0) (y : List Z4) (u : List UInt8) : Option (Z7) :=
 (oB (jaj N t y) fun E => bif !E then some ([] : Z9) else oB (jaF N u) fun G => bif !G then some ([] : Z9) else oB (jct N u) fun w => iter (fun o (j, e, l, i, a, d, h) => bif decide (a < i) then oB (idx l a) fun k => (oB (jaB N k.1) fun r => oB (jao N d k.1) fun C => bif !C then oB (jao N d r) fun D => (bif !D then if room e.length ([(r, k.2.1)] : Z9).length 24 then if fits (a + 1) then o (j, (e ++ ([(r, k.2.1)] : Z9)), l, i, (a + 1), d, h) else none else none else if fits (a + 1) then o (j, e, l, i, (a + 1), d, h) else none) else if fits (a + 1) then o (j, e, l, i, (a + 1), d, h) else none) else iter (fun z (f, c, b, q, p) => bif decide (b < (c.length : Int)) then oB (jbH N q p c b) fun n => (bif Option.isNone n then oB (idx c b) fun x => (if room f.length ([x] : Z9).length 24 then if fits (b + 1) then z ((f ++ ([x] : Z9)), c, (b + 1), q, p) else none else none) else oB n fun v => oB (idx c b) fun B => if room f.length ([(v.2, B.2)] : Z9).length 24 then oB n fun A => (if fits (b + (A.1.length : Int)) then z ((f ++ ([(v.2, B.2)] : Z9)), c, (b + (A.1.length : Int)), q, p) else none) else none) else some f) N (j, e, (0 : Int), d, h)) N (([] : Z9), ([] : Z9), w, (w.length : Int), (0 : Int), t, y))
theorem jgO (N : Nat) : mK 97 ⟨⟨[.agg [.pv (.sl .str), .pv Y16], pS], []⟩, ⟨[.own 1 Y17 151 true], []⟩, c3A (jbw N)⟩ :=
 mO (fC (jdX N) (fC (jdK N) (fC (jqc N) (fC (jio N) (fC (jh5 N) (fC (jtv N) ja)))))) Tryz.func97 rfl N (.seq .no (.seq .no (.seq .no (.seq .no (.seq (.seq .no (.block (.loop jlW .no))) (.seq (.seq .no (.block (.loop jnt .no))) .no)))))) _
def k__loop_example_fossick_impl_Seg_put_1_m (N : Nat) (d : List UInt8) (c : List UInt8) (e : Z3) (b : List UInt8) (a : Z0 × Int) : Z8 :=
 (bif decide (d = b) then some (decide (c = a.1)) else some false)
theorem jmw (N : Nat) : mK 174 ⟨⟨[.agg [pS, pS, .pv Y11], .ptr .str, .ptr Y17], []⟩, ⟨[pB], []⟩, c5A (k__loop_example_fossick_impl_Seg_put_1_m N)⟩ :=
 mO ja Tryz.func174 rfl N .no _
def jnc : Sh := ⟨.pv Y4 :: .clo 174 [.ptr .str, .ptr Y17] :: dz 5 (pI :: pI :: dz 10 []), []⟩
def k_slices_IndexFunc_146_m (N : Nat) (e : List Z1) (h : Z0 × Z0 × Int) : Z13 :=
 (iter (fun j (d, b, f, a) => bif decide (a < f) then oB (idx d a) fun c => (oB (k__loop_example_fossick_impl_Seg_put_1_m N c.1 c.2.1 c.2.2 b.1 b.2) fun k => bif k then some a else if fits (a + 1) then j (d, b, f, (a + 1)) else none) else some (-1)) N (e, h, (e.length : Int), (0 : Int)))
theorem jrl (N : Nat) : mK 173 ⟨⟨[.pv Y4, .clo 174 [.ptr .str, .ptr Y17]], []⟩, ⟨[pI], []⟩, c2A (k_slices_IndexFunc_146_m N)⟩ :=
 mO (fC (jmw N) ja) Tryz.func173 rfl N (.seq .no (.seq (.seq .no (.block (.loop jnc .no))) .no)) _
def i_Seg_put_m (N : Nat) (f : List UInt8) (h : List UInt8) (i : Int) (e : Int) (p : List Z2) (a : List Z1) : Option ((List Z2) × (List Z1)) :=
 (oB (k_slices_IndexFunc_146_m N a (f, h, i)) fun d => bif decide (d < 0) then if room a.length ([(f, h, ([] : Z3))] : List Z1).length 56 then if 0 ≤ (a.length : Int) ∧ (a.length : Int) < ((a ++ ([(f, h, ([] : Z3))] : List Z1)).length : Int) then oB ((a ++ ([(f, h, ([] : Z3))] : List Z1))[(a.length : Int).toNat]?) fun b => (if fits ((b.2.2.length : Int) - 1) then bif decide (((b.2.2.length : Int) - 1) < 0) then oB ((a ++ ([(f, h, ([] : Z3))] : List Z1))[(a.length : Int).toNat]?) fun ak => (if (a.length : Int).toNat = (a.length : Int).toNat then if room b.2.2.length ([(e, ([] : List Int))] : Z3).length 32 then if (a.length : Int).toNat = (a.length : Int).toNat then oB ((a ++ ([(f, h, ([] : Z3))] : List Z1))[(a.length : Int).toNat]?) fun k => (if fits (((b.2.2.length : Int) - 1) + 1) then oB (((a ++ ([(f, h, ([] : Z3))] : List Z1)).set (a.length : Int).toNat (k.1, k.2.1, (b.2.2 ++ ([(e, ([] : List Int))] : Z3))))[(a.length : Int).toNat]?) fun o => (oB (o.2.2[(((b.2.2.length : Int) - 1) + 1).toNat]?) fun u => oB (((a ++ ([(f, h, ([] : Z3))] : List Z1)).set (a.length : Int).toNat (k.1, k.2.1, (b.2.2 ++ ([(e, ([] : List Int))] : Z3))))[(a.length : Int).toNat]?) fun R => if (a.length : Int).toNat = (a.length : Int).toNat then oB (((a ++ ([(f, h, ([] : Z3))] : List Z1)).set (a.length : Int).toNat (k.1, k.2.1, (b.2.2 ++ ([(e, ([] : List Int))] : Z3))))[(a.length : Int).toNat]?) fun S => (if (a.length : Int).toNat = (a.length : Int).toNat then if 0 ≤ (((b.2.2.length : Int) - 1) + 1) ∧ (((b.2.2.length : Int) - 1) + 1) < (o.2.2.length : Int) then oB (o.2.2[(((b.2.2.length : Int) - 1) + 1).toNat]?) fun ae => (if (((b.2.2.length : Int) - 1) + 1).toNat = (((b.2.2.length : Int) - 1) + 1).toNat then if room u.2.length ([i] : List Int).length 8 then if 0 ≤ (((b.2.2.length : Int) - 1) + 1) ∧ (((b.2.2.length : Int) - 1) + 1) < (o.2.2.length : Int) then if (((b.2.2.length : Int) - 1) + 1).toNat = (((b.2.2.length : Int) - 1) + 1).toNat then oB (o.2.2[(((b.2.2.length : Int) - 1) + 1).toNat]?) fun K => (some (p, (((a ++ ([(f, h, ([] : Z3))] : List Z1)).set (a.length : Int).toNat (k.1, k.2.1, (b.2.2 ++ ([(e, ([] : List Int))] : Z3)))).modify ((a.length : Int).toNat) fun x => (x.1, x.2.1, (o.2.2.set (((b.2.2.length : Int) - 1) + 1).toNat (K.1, (u.2 ++ ([i] : List Int)))))))) else none else none else none else none) else none else none) else none) else none) else none else none else none) else (oB ((a ++ ([(f, h, ([] : Z3))] : List Z1))[(a.length : Int).toNat]?) fun ah => if (a.length : Int).toNat = (a.length : Int).toNat then if 0 ≤ ((b.2.2.length : Int) - 1) ∧ ((b.2.2.length : Int) - 1) < (b.2.2.length : Int) then oB (b.2.2[((b.2.2.length : Int) - 1).toNat]?) fun O => (bif !decide (O.1 = e) then oB ((a ++ ([(f, h, ([] : Z3))] : List Z1))[(a.length : Int).toNat]?) fun W => (if (a.length : Int).toNat = (a.length : Int).toNat then if room b.2.2.length ([(e, ([] : List Int))] : Z3).length 32 then if (a.length : Int).toNat = (a.length : Int).toNat then oB ((a ++ ([(f, h, ([] : Z3))] : List Z1))[(a.length : Int).toNat]?) fun m => (if fits (((b.2.2.length : Int) - 1) + 1) then oB (((a ++ ([(f, h, ([] : Z3))] : List Z1)).set (a.length : Int).toNat (m.1, m.2.1, (b.2.2 ++ ([(e, ([] : List Int))] : Z3))))[(a.length : Int).toNat]?) fun q => (oB (q.2.2[(((b.2.2.length : Int) - 1) + 1).toNat]?) fun y => oB (((a ++ ([(f, h, ([] : Z3))] : List Z1)).set (a.length : Int).toNat (m.1, m.2.1, (b.2.2 ++ ([(e, ([] : List Int))] : Z3))))[(a.length : Int).toNat]?) fun af => if (a.length : Int).toNat = (a.length : Int).toNat then oB (((a ++ ([(f, h, ([] : Z3))] : List Z1)).set (a.length : Int).toNat (m.1, m.2.1, (b.2.2 ++ ([(e, ([] : List Int))] : Z3))))[(a.length : Int).toNat]?) fun T => (if (a.length : Int).toNat = (a.length : Int).toNat then if 0 ≤ (((b.2.2.length : Int) - 1) + 1) ∧ (((b.2.2.length : Int) - 1) + 1) < (q.2.2.length : Int) then oB (q.2.2[(((b.2.2.length : Int) - 1) + 1).toNat]?) fun aj => (if (((b.2.2.length : Int) - 1) + 1).toNat = (((b.2.2.length : Int) - 1) + 1).toNat then if room y.2.length ([i] : List Int).length 8 then if 0 ≤ (((b.2.2.length : Int) - 1) + 1) ∧ (((b.2.2.length : Int) - 1) + 1) < (q.2.2.length : Int) then if (((b.2.2.length : Int) - 1) + 1).toNat = (((b.2.2.length : Int) - 1) + 1).toNat then oB (q.2.2[(((b.2.2.length : Int) - 1) + 1).toNat]?) fun I => (some (p, (((a ++ ([(f, h, ([] : Z3))] : List Z1)).set (a.length : Int).toNat (m.1, m.2.1, (b.2.2 ++ ([(e, ([] : List Int))] : Z3)))).modify ((a.length : Int).toNat) fun w => (w.1, w.2.1, (q.2.2.set (((b.2.2.length : Int) - 1) + 1).toNat (I.1, (y.2 ++ ([i] : List Int)))))))) else none else none else none else none) else none else none) else none) else none) else none else none else none) else if (a.length : Int).toNat = (a.length : Int).toNat then oB (b.2.2[((b.2.2.length : Int) - 1).toNat]?) fun v => (oB ((a ++ ([(f, h, ([] : Z3))] : List Z1))[(a.length : Int).toNat]?) fun aa => if (a.length : Int).toNat = (a.length : Int).toNat then oB ((a ++ ([(f, h, ([] : Z3))] : List Z1))[(a.length : Int).toNat]?) fun ab => (if (a.length : Int).toNat = (a.length : Int).toNat then if 0 ≤ ((b.2.2.length : Int) - 1) ∧ ((b.2.2.length : Int) - 1) < (b.2.2.length : Int) then oB (b.2.2[((b.2.2.length : Int) - 1).toNat]?) fun V => (if ((b.2.2.length : Int) - 1).toNat = ((b.2.2.length : Int) - 1).toNat then if room v.2.length ([i] : List Int).length 8 then if 0 ≤ ((b.2.2.length : Int) - 1) ∧ ((b.2.2.length : Int) - 1) < (b.2.2.length : Int) then if ((b.2.2.length : Int) - 1).toNat = ((b.2.2.length : Int) - 1).toNat then oB (b.2.2[((b.2.2.length : Int) - 1).toNat]?) fun G => (some (p, ((a ++ ([(f, h, ([] : Z3))] : List Z1)).modify ((a.length : Int).toNat) fun B => (B.1, B.2.1, (b.2.2.set ((b.2.2.length : Int) - 1).toNat (G.1, (v.2 ++ ([i] : List Int)))))))) else none else none else none else none) else none else none) else none) else none) else none else none) else none) else none else none else if 0 ≤ d ∧ d < (a.length : Int) then oB (a[d.toNat]?) fun c => (if fits ((c.2.2.length : Int) - 1) then bif decide (((c.2.2.length : Int) - 1) < 0) then oB (a[d.toNat]?) fun aq => (if d.toNat = d.toNat then if room c.2.2.length ([(e, ([] : List Int))] : Z3).length 32 then if d.toNat = d.toNat then oB (a[d.toNat]?) fun l => (if fits (((c.2.2.length : Int) - 1) + 1) then oB ((a.set d.toNat (l.1, l.2.1, (c.2.2 ++ ([(e, ([] : List Int))] : Z3))))[d.toNat]?) fun r => (oB (r.2.2[(((c.2.2.length : Int) - 1) + 1).toNat]?) fun t => oB ((a.set d.toNat (l.1, l.2.1, (c.2.2 ++ ([(e, ([] : List Int))] : Z3))))[d.toNat]?) fun X => if d.toNat = d.toNat then oB ((a.set d.toNat (l.1, l.2.1, (c.2.2 ++ ([(e, ([] : List Int))] : Z3))))[d.toNat]?) fun ai => (if d.toNat = d.toNat then if 0 ≤ (((c.2.2.length : Int) - 1) + 1) ∧ (((c.2.2.length : Int) - 1) + 1) < (r.2.2.length : Int) then oB (r.2.2[(((c.2.2.length : Int) - 1) + 1).toNat]?) fun al => (if (((c.2.2.length : Int) - 1) + 1).toNat = (((c.2.2.length : Int) - 1) + 1).toNat then if room t.2.length ([i] : List Int).length 8 then if 0 ≤ (((c.2.2.length : Int) - 1) + 1) ∧ (((c.2.2.length : Int) - 1) + 1) < (r.2.2.length : Int) then if (((c.2.2.length : Int) - 1) + 1).toNat = (((c.2.2.length : Int) - 1) + 1).toNat then oB (r.2.2[(((c.2.2.length : Int) - 1) + 1).toNat]?) fun P => (some (p, ((a.set d.toNat (l.1, l.2.1, (c.2.2 ++ ([(e, ([] : List Int))] : Z3)))).modify d.toNat fun C => (C.1, C.2.1, (r.2.2.set (((c.2.2.length : Int) - 1) + 1).toNat (P.1, (t.2 ++ ([i] : List Int)))))))) else none else none else none else none) else none else none) else none) else none) else none else none else none) else (oB (a[d.toNat]?) fun an => if d.toNat = d.toNat then if 0 ≤ ((c.2.2.length : Int) - 1) ∧ ((c.2.2.length : Int) - 1) < (c.2.2.length : Int) then oB (c.2.2[((c.2.2.length : Int) - 1).toNat]?) fun H => (bif !decide (H.1 = e) then oB (a[d.toNat]?) fun ac => (if d.toNat = d.toNat then if room c.2.2.length ([(e, ([] : List Int))] : Z3).length 32 then if d.toNat = d.toNat then oB (a[d.toNat]?) fun j => (if fits (((c.2.2.length : Int) - 1) + 1) then oB ((a.set d.toNat (j.1, j.2.1, (c.2.2 ++ ([(e, ([] : List Int))] : Z3))))[d.toNat]?) fun n => (oB (n.2.2[(((c.2.2.length : Int) - 1) + 1).toNat]?) fun E => oB ((a.set d.toNat (j.1, j.2.1, (c.2.2 ++ ([(e, ([] : List Int))] : Z3))))[d.toNat]?) fun am => if d.toNat = d.toNat then oB ((a.set d.toNat (j.1, j.2.1, (c.2.2 ++ ([(e, ([] : List Int))] : Z3))))[d.toNat]?) fun U => (if d.toNat = d.toNat then if 0 ≤ (((c.2.2.length : Int) - 1) + 1) ∧ (((c.2.2.length : Int) - 1) + 1) < (n.2.2.length : Int) then oB (n.2.2[(((c.2.2.length : Int) - 1) + 1).toNat]?) fun ad => (if (((c.2.2.length : Int) - 1) + 1).toNat = (((c.2.2.length : Int) - 1) + 1).toNat then if room E.2.length ([i] : List Int).length 8 then if 0 ≤ (((c.2.2.length : Int) - 1) + 1) ∧ (((c.2.2.length : Int) - 1) + 1) < (n.2.2.length : Int) then if (((c.2.2.length : Int) - 1) + 1).toNat = (((c.2.2.length : Int) - 1) + 1).toNat then oB (n.2.2[(((c.2.2.length : Int) - 1) + 1).toNat]?) fun L => (some (p, ((a.set d.toNat (j.1, j.2.1, (c.2.2 ++ ([(e, ([] : List Int))] : Z3)))).modify d.toNat fun D => (D.1, D.2.1, (n.2.2.set (((c.2.2.length : Int) - 1) + 1).toNat (L.1, (E.2 ++ ([i] : List Int)))))))) else none else none else none else none) else none else none) else none) else none) else none else none else none) else if d.toNat = d.toNat then oB (c.2.2[((c.2.2.length : Int) - 1).toNat]?) fun z => (oB (a[d.toNat]?) fun ao => if d.toNat = d.toNat then oB (a[d.toNat]?) fun ag => (if d.toNat = d.toNat then if 0 ≤ ((c.2.2.length : Int) - 1) ∧ ((c.2.2.length : Int) - 1) < (c.2.2.length : Int) then oB (c.2.2[((c.2.2.length : Int) - 1).toNat]?) fun ap => (if ((c.2.2.length : Int) - 1).toNat = ((c.2.2.length : Int) - 1).toNat then if room z.2.length ([i] : List Int).length 8 then if 0 ≤ ((c.2.2.length : Int) - 1) ∧ ((c.2.2.length : Int) - 1) < (c.2.2.length : Int) then if ((c.2.2.length : Int) - 1).toNat = ((c.2.2.length : Int) - 1).toNat then oB (c.2.2[((c.2.2.length : Int) - 1).toNat]?) fun Q => (some (p, (a.modify d.toNat fun A => (A.1, A.2.1, (c.2.2.set ((c.2.2.length : Int) - 1).toNat (Q.1, (z.2 ++ ([i] : List Int)))))))) else none else none else none else none) else none else none) else none) else none) else none else none) else none) else none)
theorem jky (N : Nat) : mK 98 ⟨⟨[.box 900000 0, pS, .agg [pS, pI], pI], [(900000, false, [.pv Y2, .tre 850001 Y5 156])]⟩, ⟨[.tup []], [(900000, false, [.pv Y2, .tre 1 Y5 156])]⟩, c6A (i_Seg_put_m N)⟩ :=
 mO (fC (jrl N) ja) Tryz.func98 rfl N (.seq .no (.seq .no (.seq .no (.seq .no (.seq .no (.seq .no (.touch [.out 9 [(2, 79, 239, 10), (1, 88, 3, 0)]]))))))) _ (wr := [33, 34, 70, 71, 91, 92]) (rs := [900000, 850001]) (dw := [16, 33, 70])
def jl0 : Sh := ⟨.pv (.int .u64) :: .dead :: pI :: dz 22 [], []⟩
def k_math_bits_Len64_m (N : Nat) (f : Int) : Z13 :=
 (meet (fun (a : Int × Int) => match a with | (c, d) => meet (fun (a : Int × Int) => match a with | (b, e) => meet (fun (a : Int × Int) => match a with | (m, k) => oB (idx ([0, 1, 2, 2, 3, 3, 3, 3, 4, 4, 4, 4, 4, 4, 4, 4, 5, 5, 5, 5, 5, 5, 5, 5, 5, 5, 5, 5, 5, 5, 5, 5, 6, 6, 6, 6, 6, 6, 6, 6, 6, 6, 6, 6, 6, 6, 6, 6, 6, 6, 6, 6, 6, 6, 6, 6, 6, 6, 6, 6, 6, 6, 6, 6, 7, 7, 7, 7, 7, 7, 7, 7, 7, 7, 7, 7, 7, 7, 7, 7, 7, 7, 7, 7, 7, 7, 7, 7, 7, 7, 7, 7, 7, 7, 7, 7, 7, 7, 7, 7, 7, 7, 7, 7, 7, 7, 7, 7, 7, 7, 7, 7, 7, 7, 7, 7, 7, 7, 7, 7, 7, 7, 7, 7, 7, 7, 7, 7, 8, 8, 8, 8, 8, 8, 8, 8, 8, 8, 8, 8, 8, 8, 8, 8, 8, 8, 8, 8, 8, 8, 8, 8, 8, 8, 8, 8, 8, 8, 8, 8, 8, 8, 8, 8, 8, 8, 8, 8, 8, 8, 8, 8, 8, 8, 8, 8, 8, 8, 8, 8, 8, 8, 8, 8, 8, 8, 8, 8, 8, 8, 8, 8, 8, 8, 8, 8, 8, 8, 8, 8, 8, 8, 8, 8, 8, 8, 8, 8, 8, 8, 8, 8, 8, 8, 8, 8, 8, 8, 8, 8, 8, 8, 8, 8, 8, 8, 8, 8, 8, 8, 8, 8, 8, 8, 8, 8, 8, 8, 8, 8, 8, 8, 8, 8, 8, 8, 8, 8, 8, 8, 8, 8, 8, 8, 8, 8] : List UInt8) (IntKind.u8.wrap m)) fun h => if fits (k + (IntKind.i64.wrap (h.toNat : Int))) then some (k + (IntKind.i64.wrap (h.toNat : Int))) else none) fun l => bif decide ((256 : Int) ≤ b) then if 0 ≤ (8 : Int) then if fits (e + 8) then l ((b.fdiv (2 ^ (min (8 : Int).toNat (IntKind.bits .u64)))), (e + 8)) else none else none else l (b, e)) fun j => bif decide ((65536 : Int) ≤ c) then if 0 ≤ (16 : Int) then if fits (d + 16) then j ((c.fdiv (2 ^ (min (16 : Int).toNat (IntKind.bits .u64)))), (d + 16)) else none else none else j (c, d)) fun i => bif decide ((4294967296 : Int) ≤ f) then if 0 ≤ (32 : Int) then i ((f.fdiv (2 ^ (min (32 : Int).toNat (IntKind.bits .u64)))), 32) else none else i (f, 0))
theorem jrK (N : Nat) : mK 244 ⟨⟨[.pv (.int .u64)], []⟩, ⟨[pI], []⟩, c1A (k_math_bits_Len64_m N)⟩ :=
 mO ja Tryz.func244 rfl N (.seq .no (.meet jl0 .no (.meet jl0 .no (.meet jl0 .no .no)))) _
def k_math_bits_Len_m (N : Nat) (b : Int) : Z13 :=
 (oB (k_math_bits_Len64_m N b) fun a => some a)
theorem jda (N : Nat) : mK 176 ⟨⟨[.pv (.int .u64)], []⟩, ⟨[pI], []⟩, c1A (k_math_bits_Len_m N)⟩ :=
 mO (fC (jrK N) ja) Tryz.func176 rfl N .no _
def jbn (N : Nat) (a : List UInt8) : Z8 :=
 (some (!decide (a = a)))
theorem jkt (N : Nat) : mK 177 ⟨⟨[pS], []⟩, ⟨[pB], []⟩, c1A (jbn N)⟩ :=
 mO ja Tryz.func177 rfl N .no _
def jam (N : Nat) (b : List UInt8) (a : List UInt8) : Z13 :=
 (oB (jbn N b) fun d => oB (jbn N a) fun c => bif d then bif c then some 0 else (some (-1)) else bif c then some 1 else bif Op.bytesLess b a then some (-1) else bif !(Op.bytesLess b a || decide (b = a)) then some 1 else some 0)
theorem ji2 (N : Nat) : mK 102 ⟨⟨[pS, pS], []⟩, ⟨[pI], []⟩, c2A (jam N)⟩ :=
 mO (fC (jkt N) ja) Tryz.func102 rfl N .no _
def jlp : Sh := ⟨dz 3 (pI :: .dead :: .dead :: .pv Y21 :: pI :: pI :: dz 9 []), []⟩
def jbe (N : Nat) (d : List Int) : Z13 :=
 (iter (fun i (b, e, c, a) => bif decide (a < c) then oB (idx e a) fun f => (bif !decide (f = b) then some f else if fits (a + 1) then i (b, e, c, (a + 1)) else none) else some b) N ((0 : Int), d, (d.length : Int), (0 : Int)))
theorem jhC (N : Nat) : mK 101 ⟨⟨[.pv Y21], []⟩, ⟨[pI], []⟩, c1A (jbe N)⟩ :=
 mO ja Tryz.func101 rfl N (.seq .no (.seq .no (.seq (.seq .no (.block (.loop jlp .no))) .no))) _
def je (N : Nat) (h : List UInt8) (f : List UInt8) (i : Z3) (a : List UInt8) (b : List UInt8) (j : Z3) : Z13 :=
 (oB (jam N h a) fun d => oB (jam N f b) fun e => oB (jbe N ([d, e] : List Int)) fun c => some c)
theorem jaf (N : Nat) : mK 100 ⟨⟨[.agg [pS, pS, .pv Y11], .agg [pS, pS, .pv Y11]], []⟩, ⟨[pI], []⟩, c6A (je N)⟩ :=
 mO (fC (ji2 N) (fC (jhC N) ja)) Tryz.func100 rfl N .no _
def k_slices_nextPowerOfTwo_m (N : Nat) (b : Int) : Z13 :=
 (oB (k_math_bits_Len_m N (IntKind.u64.wrap b)) fun a => if 0 ≤ a then some (IntKind.u64.wrap ((1 : Int) * 2 ^ (min a.toNat (IntKind.bits .u64)))) else none)
theorem jhv (N : Nat) : mK 287 ⟨⟨[pI], []⟩, ⟨[.pv (.int .u64)], []⟩, c1A (k_slices_nextPowerOfTwo_m N)⟩ :=
 mO (fC (jda N) ja) Tryz.func287 rfl N .no _
end Go.Proofs.YtfgcmhhacfkhcaaGreatDoor
