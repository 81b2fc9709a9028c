import Derived.Test.YtfgcmhhacfkhcaaGreatDoorSJ
set_option linter.unusedVariables false
set_option linter.unusedSimpArgs false
namespace Go.Proofs.YtfgcmhhacfkhcaaGreatDoor
open Go.RowKit
open Option renaming bind → oB
set_option maxRecDepth 1000000
abbrev Z0 : Type := List UInt8
abbrev Z1 : Type := Z0 × Z0 × (List (Int × (List Int)))
abbrev Z2 : Type := Int × (List (Z0 × Z0)) × (List (Z0 × Int))
abbrev Z3 : Type := (List Z0) × Z0
abbrev Z4 : Type := List (Int × (List Int))
abbrev Z5 : Type := List (Z0 × Int)
abbrev Z6 : Type := List (Z0 × Int)
abbrev Z7 : Type := Option (Bool)
abbrev Z8 : Type := Z0 × Int × Int × Int
abbrev Z9 : Type := List (Z0 × Z0)
abbrev Z10 : Type := List (Z0 × Z0)
abbrev Z11 : Type := ((List Z0) × (List Z3)) × (List Z2) × (List Z1)
abbrev Z12 : Type := Option (Int)
abbrev Z13 : Type := List (List Int)
abbrev Z14 : Type := List (Int × (List Int))
abbrev Z15 : Type := Z0 × Z0 × (List Int) × Int × Int × Int
abbrev Z16 : Type := Int × Int × Z0 × (List Z0) × Int × Int × (List DQ) × Bool × Int × Int × Int × Int × Bool × Int × Int
abbrev mK := ModelOk Tryz.prog
theorem mO {l : List (Nat × Model)} (hl : jR Tryz.prog l) {f : FuncId} {fn : Func} {c : Code} (hf : Tryz.prog.funcs[f]? = some fn) (hbody : fn.body = some c) (N : Nat) (h : Hint) (m : Model) (wr rs dw : List Nat := [])
  (hname : (fn.name == "runtime.NumGoroutine") = false := by kernel_rfl) (hres : m.arg.names.all (jbC l wr rs dw).res = true := by kernel_rfl) (hlen : Nat.ble m.arg.vals.length fn.ntmps = true := by kernel_rfl)
  (hrun : ∀ a, m.run a = runF N (jbC l wr rs dw) okDraw fn c h m.arg m.ret a := by intro a; kernel_rfl) : ModelOk Tryz.prog f m := modelOk_of (E := jbC l wr rs dw) (jtQ hl wr rs dw) hf hname hbody N h m hres hlen hrun
theorem fC {k : Nat} {m : Model} {l : List (Nat × Model)} (h : ModelOk Tryz.prog k m) (hl : jR Tryz.prog l) : jR Tryz.prog ((k, m) :: l) := jsH h hl
abbrev pI : VS := .pv (.int .i64)
abbrev pS : VS := .pv .str
abbrev pB : VS := .pv .bool
abbrev tI : Tp := .int .i64
abbrev c1A {α ρ : Type} (f : α → ρ) (a : α) : ρ := f a
abbrev c2A {α0 α1 ρ : Type} (f : α0 → α1 → ρ) (a : α0 × α1) : ρ := f a.1 a.2
abbrev c3A {α0 α1 α2 ρ : Type} (f : α0 → α1 → α2 → ρ) (a : α0 × α1 × α2) : ρ := f a.1 a.2.1 a.2.2
abbrev c4A {α0 α1 α2 α3 ρ : Type} (f : α0 → α1 → α2 → α3 → ρ) (a : α0 × α1 × α2 × α3) : ρ := f a.1 a.2.1 a.2.2.1 a.2.2.2
abbrev c5A {α0 α1 α2 α3 α4 ρ : Type} (f : α0 → α1 → α2 → α3 → α4 → ρ) (a : α0 × α1 × α2 × α3 × α4) : ρ := f a.1 a.2.1 a.2.2.1 a.2.2.2.1 a.2.2.2.2
abbrev c6A {α0 α1 α2 α3 α4 α5 ρ : Type} (f : α0 → α1 → α2 → α3 → α4 → α5 → ρ) (a : α0 × α1 × α2 × α3 × α4 × α5) : ρ := f a.1 a.2.1 a.2.2.1 a.2.2.2.1 a.2.2.2.2.1 a.2.2.2.2.2
abbrev c7A {α0 α1 α2 α3 α4 α5 α6 ρ : Type} (f : α0 → α1 → α2 → α3 → α4 → α5 → α6 → ρ) (a : α0 × α1 × α2 × α3 × α4 × α5 × α6) : ρ := f a.1 a.2.1 a.2.2.1 a.2.2.2.1 a.2.2.2.2.1 a.2.2.2.2.2.1 a.2.2.2.2.2.2
abbrev c9A {α0 α1 α2 α3 α4 α5 α6 α7 α8 ρ : Type} (f : α0 → α1 → α2 → α3 → α4 → α5 → α6 → α7 → α8 → ρ) (a : α0 × α1 × α2 × α3 × α4 × α5 × α6 × α7 × α8) : ρ := f a.1 a.2.1 a.2.2.1 a.2.2.2.1 a.2.2.2.2.1 a.2.2.2.2.2.1 a.2.2.2.2.2.2.1 a.2.2.2.2.2.2.2.1 a.2.2.2.2.2.2.2.2
abbrev c10A {α0 α1 α2 α3 α4 α5 α6 α7 α8 α9 ρ : Type} (f : α0 → α1 → α2 → α3 → α4 → α5 → α6 → α7 → α8 → α9 → ρ) (a : α0 × α1 × α2 × α3 × α4 × α5 × α6 × α7 × α8 × α9) : ρ := f a.1 a.2.1 a.2.2.1 a.2.2.2.1 a.2.2.2.2.1 a.2.2.2.2.2.1 a.2.2.2.2.2.2.1 a.2.2.2.2.2.2.2.1 a.2.2.2.2.2.2.2.2.1 a.2.2.2.2.2.2.2.2.2
abbrev c11A {α0 α1 α2 α3 α4 α5 α6 α7 α8 α9 α10 ρ : Type} (f : α0 → α1 → α2 → α3 → α4 → α5 → α6 → α7 → α8 → α9 → α10 → ρ) (a : α0 × α1 × α2 × α3 × α4 × α5 × α6 × α7 × α8 × α9 × α10) : ρ := f a.1 a.2.1 a.2.2.1 a.2.2.2.1 a.2.2.2.2.1 a.2.2.2.2.2.1 a.2.2.2.2.2.2.1 a.2.2.2.2.2.2.2.1 a.2.2.2.2.2.2.2.2.1 a.2.2.2.2.2.2.2.2.2.1 a.2.2.2.2.2.2.2.2.2.2
def dz : Nat → List VS → List VS
 | 0, l => l
 | n + 1, l => .dead :: dz n l
abbrev Y20 : Tp := .sl tI
abbrev Y19 : Tp := .pair .str .str
abbrev Y18 : Tp := .sl (.pair .str .str)
abbrev Y17 : Tp := .pair (.sl .str) .str
abbrev Y16 : Tp := .pair .str tI
abbrev Y15 : Tp := .sl (.pair (.sl .str) .str)
abbrev Y14 : Tp := .sl (.pair .str tI)
abbrev Y13 : Tp := .pair tI tI
abbrev Y12 : Tp := .pair tI (.sl tI)
abbrev Y11 : Tp := .sl (.pair tI (.sl tI))
abbrev Y6 : Tp := .pair .str (.pair tI (.pair tI tI))
abbrev Y5 : Tp := .pair .str (.pair .str (.sl (.pair tI (.sl tI))))
abbrev Y4 : Tp := .sl (.pair .str (.pair .str (.sl (.pair tI (.sl tI)))))
abbrev Y3 : Tp := .pair tI (.pair (.sl (.pair .str .str)) (.sl (.pair .str tI)))
abbrev Y2 : Tp := .sl (.pair tI (.pair (.sl (.pair .str .str)) (.sl (.pair .str tI))))
abbrev Y1 : Tp := .pair (.sl (.pair tI (.pair (.sl (.pair .str .str)) (.sl (.pair .str tI))))) (.sl (.pair .str (.pair .str (.sl (.pair tI (.sl tI))))))
abbrev Y0 : Tp := .pair (.pair (.sl .str) (.sl (.pair (.sl .str) .str))) (.pair (.sl (.pair tI (.pair (.sl (.pair .str .str)) (.sl (.pair .str tI))))) (.sl (.pair .str (.pair .str (.sl (.pair tI (.sl tI)))))))
def jt (N : Nat) (a : Int) : Z12 :=
 (bif decide ((65 : Int) ≤ a) then bif decide (a ≤ 90) then some (IntKind.u8.wrap (a + 32)) else (bif decide ((97 : Int) ≤ a) then bif decide (a ≤ 122) then some a else (bif decide ((48 : Int) ≤ a) then bif decide (a ≤ 57) then some a else (some 0) else some 0) else bif decide ((48 : Int) ≤ a) then bif decide (a ≤ 57) then some a else (some 0) else some 0) else bif decide ((97 : Int) ≤ a) then bif decide (a ≤ 122) then some a else (bif decide ((48 : Int) ≤ a) then bif decide (a ≤ 57) then some a else (some 0) else some 0) else bif decide ((48 : Int) ≤ a) then bif decide (a ≤ 57) then some a else (some 0) else some 0)
theorem jfG (N : Nat) : mK 207 ⟨⟨[.pv (.int .u8)], []⟩, ⟨[.pv (.int .u8)], []⟩, c1A (jt N)⟩ :=
 mO ja Tryz.func207 rfl N .no _
def jJ (N : Nat) (a : Int) (b : Int) (c : Int) : Z7 :=
 (bif decide (b ≤ a) then some (decide (a ≤ c)) else some false)
theorem jcL (N : Nat) : mK 112 ⟨⟨[pI, pI, pI], []⟩, ⟨[pB], []⟩, c3A (jJ N)⟩ :=
 mO ja Tryz.func112 rfl N .no _
def jr5 : Sh := ⟨pS :: .dead :: .dead :: pI :: dz 23 [], []⟩
def jT (N : Nat) (j : List UInt8) : Z7 :=
 (iter (fun d (b, a) => bif decide (a < (b.length : Int)) then oB (idx b a) fun c => (oB (jt N (c.toNat : Int)) fun e => oB (idx b a) fun k => bif !decide (e = (k.toNat : Int)) then some false else oB (idx b a) fun f => bif decide ((f.toNat : Int) = 0) then some false else if fits (a + 1) then d (b, (a + 1)) else none) else oB (jJ N (b.length : Int) 1 12) fun i => some i) N (j, (0 : Int)))
theorem jgp (N : Nat) : mK 140 ⟨⟨[pS], []⟩, ⟨[pB], []⟩, c1A (jT N)⟩ :=
 mO (fC (jfG N) (fC (jcL N) ja)) Tryz.func140 rfl N (.seq .no (.seq (.seq .no (.block (.loop jr5 .no))) .no)) _
def jxz (N : Nat) (k : Int) (j : List UInt8) (f : List Z0) (e : Int) (c : Int) (b : List DQ) (i : Bool) (h : Bool) (d : Bool) (a : Bool) : Z7 :=
 (bif i then bif h then bif d then bif a then some true else (some (decide ((b.length : Int) = 0))) else (bif decide (e = 0) then bif decide (c = 0) then bif a then some true else (some (decide ((b.length : Int) = 0))) else (some false) else some false) else (bif decide ((f.length : Int) = 0) then bif d then bif a then some true else (some (decide ((b.length : Int) = 0))) else (bif decide (e = 0) then bif decide (c = 0) then bif a then some true else (some (decide ((b.length : Int) = 0))) else (some false) else some false) else some false) else bif decide (j = ([] : List UInt8)) then bif h then bif d then bif a then some true else (some (decide ((b.length : Int) = 0))) else (bif decide (e = 0) then bif decide (c = 0) then bif a then some true else (some (decide ((b.length : Int) = 0))) else (some false) else some false) else (bif decide ((f.length : Int) = 0) then bif d then bif a then some true else (some (decide ((b.length : Int) = 0))) else (bif decide (e = 0) then bif decide (c = 0) then bif a then some true else (some (decide ((b.length : Int) = 0))) else (some false) else some false) else some false) else some false)
theorem jDV (N : Nat) : mK 299 ⟨⟨[.agg [pI, pS, .pv (.sl .str), pI, pI, .pv (.sl .q)], pB, pB, pB, pB], []⟩, ⟨[pB], []⟩, c10A (jxz N)⟩ :=
 mO ja Tryz.func299 rfl N .no _
def jDt : Sh := ⟨.pv (.sl .str) :: pI :: dz 3 (pI :: dz 16 []), []⟩
def jxL (N : Nat) (h : List Z0) (e : Int) : Z7 :=
 (iter (fun d (b, c, a) => bif decide (a < (b.length : Int)) then oB (idx b a) fun k => (oB (jT N k) fun f => bif !f then some false else if fits (a + 1) then d (b, c, (a + 1)) else none) else oB (jJ N (b.length : Int) 1 c) fun j => some j) N (h, e, (0 : Int)))
theorem jDs (N : Nat) : mK 300 ⟨⟨[.pv (.sl .str), pI], []⟩, ⟨[pB], []⟩, c2A (jxL N)⟩ :=
 mO (fC (jgp N) (fC (jcL N) ja)) Tryz.func300 rfl N (.seq .no (.seq (.seq .no (.block (.loop jDt .no))) .no)) _
def jBL : Sh := ⟨pS :: .dead :: .dead :: pI :: dz 28 [], []⟩
def jyk (N : Nat) (e : List UInt8) : Z7 :=
 (iter (fun c (b, a) => bif decide (a < (b.length : Int)) then oB (idx b a) fun d => (bif !decide ((d.toNat : Int) = 42) then oB (idx b a) fun k => (bif !decide ((k.toNat : Int) = 63) then if fits (a + 1) then oB (cut b a (a + 1)) fun i => (oB (jT N i) fun f => bif !f then some false else if fits (a + 1) then c (b, (a + 1)) else none) else none else if fits (a + 1) then c (b, (a + 1)) else none) else if fits (a + 1) then c (b, (a + 1)) else none) else oB (jJ N (b.length : Int) 1 12) fun j => some j) N (e, (0 : Int)))
theorem jC1 (N : Nat) : mK 301 ⟨⟨[pS], []⟩, ⟨[pB], []⟩, c1A (jyk N)⟩ :=
 mO (fC (jgp N) (fC (jcL N) ja)) Tryz.func301 rfl N (.seq .no (.seq (.seq .no (.block (.loop jBL .no))) .no)) _
def jDP : Sh := ⟨.dead :: .box 1 0 :: .dead :: pI :: dz 4 (pI :: dz 123 (pB :: dz 34 [])), [(1, false, [pI, pS, .pv (.sl .str), pI, pI, .pv (.sl .q)])]⟩
def jyq (N : Nat) (a : Int) (c : List UInt8) (b : List Z0) (d : Int) (e : Int) (f : List DQ) : Z7 :=
 (bif decide (a = 1) then oB (jxz N a c b d e f false false false false) fun r => (some r) else bif decide (a = 2) then oB (jxz N a c b d e f true true false false) fun L => (bif L then oB (jT N c) fun E => (bif E then oB (jxL N b 1) fun T => (some T) else some false) else some false) else bif decide (a = 3) then oB (jxz N a c b d e f true true true false) fun D => (bif D then oB (jT N c) fun O => (bif O then oB (jxL N b 4) fun U => (bif U then bif decide ((1 : Int) < (b.length : Int)) then bif decide (e = 0) then oB (jJ N d 0 5) fun A => (some A) else (some false) else (some false) else some false) else some false) else some false) else bif decide (a = 4) then oB (jxz N a c b d e f true true true false) fun q => (bif q then oB (jT N c) fun K => (bif K then oB (jxL N b 1) fun G => (bif G then bif decide (e = 0) then oB (jJ N d 1 2) fun H => (some H) else (some false) else some false) else some false) else some false) else bif decide (a = 5) then oB (jxz N a c b d e f true true false false) fun x => (bif x then oB (jT N c) fun R => (bif R then bif decide ((b.length : Int) = 1) then oB (idx b 0) fun w => (oB (jyk N w) fun Q => bif Q then oB (idx b 0) fun X => (oB (jT N X) fun W => some (!W)) else some false) else (some false) else some false) else some false) else bif decide (a = 6) then oB (jxz N a c b d e f true false true false) fun B => (bif B then oB (jT N c) fun S => (bif S then oB (jJ N d 0 999999999) fun z => (bif z then oB (jJ N e d 999999999) fun u => (some u) else some false) else some false) else some false) else meet (fun (C : Int × Int × Bool × Int × Z0 × (List Z0) × Int × Int × (List DQ)) => match C with | (k, p, P, n, j, l, i, h, m) => bif P then oB (jxz N n j l i h m false false false true) fun t => (bif t then oB (jJ N k 2 4) fun v => (some v) else some false) else bif decide (p = 9) then oB (jxz N n j l i h m false false false true) fun I => (bif I then some (decide (k = 2)) else some false) else bif decide (p = 10) then oB (jxz N n j l i h m false false true true) fun V => (bif V then bif decide (k = 1) then bif decide (h = 0) then oB (jJ N i 2 9) fun y => (some y) else (some false) else (some false) else some false) else some false) fun o => bif decide (a = 7) then o ((f.length : Int), a, true, a, c, b, d, e, f) else o ((f.length : Int), a, (decide (a = 8)), a, c, b, d, e, f))
theorem jBO (N : Nat) : mK 249 ⟨⟨[.agg [pI, pS, .pv (.sl .str), pI, pI, .pv (.sl .q)]], []⟩, ⟨[pB], []⟩, c6A (jyq N)⟩ :=
 mO (fC (jDV N) (fC (jgp N) (fC (jDs N) (fC (jcL N) (fC (jC1 N) ja))))) Tryz.func249 rfl N (.seq .no (.seq .no (.seq (.seq .no (.block (.seq .no (.cond .no (.seq .no (.cond .no (.seq .no (.cond .no (.seq .no (.cond .no (.seq .no (.cond .no (.seq .no (.cond .no (.meet jDP .no .no))))))))))))))) .no))) _
def jD7 : Sh := ⟨.dead :: pI :: .box 2 0 :: .dead :: .dead :: pI :: dz 23 [], [(2, false, [pI, pS, .pv (.sl .str), pI, pI, .pv (.sl .q)])]⟩
def jxO (N : Nat) : (D : Nat) → Int → Z0 → (List Z0) → Int → Int → (List DQ) → Int → Z7
 | 0, _, _, _, _, _, _, _ => none
 | D + 1, q, q2, q3, q4, q5, q6, deep =>
 bif decide (deep = 0) then
 some false
 else
 oB (jyq N q q2 q3 q4 q5 q6) fun r =>
 bif !r then
 some false
 else
 iter (fun go (g : Int × Int × Int × Z0 × (List Z0) × Int × Int × (List DQ)) =>
 match g with
 | (deep2, i, q7, q8, q9, q10, q11, q12) =>
 bif decide (i < (q12.length : Int)) then
 oB (idx q12 i) fun e =>
 (if fits (deep2 - 1) then oB (jxO N D e.kind e.field e.words e.lo e.hi e.kids (deep2 - 1)) fun r2 =>
 (bif !r2 then
 some false
 else
 if fits (i + 1) then go (deep2, (i + 1), q7, q8, q9, q10, q11, q12) else none) else none)
 else
 some true) N (deep, 0, q, q2, q3, q4, q5, q6)
def jx9 (N D : Nat) : Model := ⟨⟨[.agg [pI, pS, .pv (.sl .str), pI, pI, .pv (.sl .q)], pI], []⟩, ⟨[pB], []⟩, c7A (jxO N D)⟩
theorem jBT (N D : Nat) (ih : mK 184 (jx9 N D)) : mK 184 (jx9 N (D + 1)) :=
 mO (fC ih (fC (jBO N) ja)) Tryz.func184 rfl N (.seq .no (.seq .no (.seq (.seq .no (.block (.loop jD7 .no))) .no))) (jx9 N (D + 1))
theorem jzV (N : Nat) : ∀ D, mK 184 (jx9 N D)
 | 0 => modelOk_none ⟨_, Tryz.func184, by decide, by kernel_rfl⟩ _ (fun a => rfl)
 | D + 1 => jBT N D (jzV N D)
def jE5 (N : Nat) (a : Int) (e : List UInt8) (c : List Z0) (h : Int) (b : Int) (f : List DQ) : Z7 :=
 (oB (jxO N N a e c h b f 4) fun d => some d)
theorem jBX (N : Nat) : mK 111 ⟨⟨[.agg [pI, pS, .pv (.sl .str), pI, pI, .pv (.sl .q)]], []⟩, ⟨[pB], []⟩, c6A (jE5 N)⟩ :=
 mO (fC (jzV N N) ja) Tryz.func111 rfl N .no _
def jGb : Sh := ⟨.pv (.sl (.pair .str .q)) :: .dead :: .dead :: pI :: dz 43 [], []⟩
def jE4 (N : Nat) (j : List (Z0 × DQ)) : Z7 :=
 (iter (fun d (b, a) => bif decide (a < (b.length : Int)) then oB (idx b a) fun h => (oB (jT N h.1) fun i => bif !i then some false else oB (idx b a) fun c => oB (jE5 N c.2.kind c.2.field c.2.words c.2.lo c.2.hi c.2.kids) fun k => bif !k then some false else bif decide ((0 : Int) < a) then oB (idx b a) fun e => (if fits (a - 1) then oB (idx b (a - 1)) fun f => (bif Op.bytesLess e.1 f.1 || decide (e.1 = f.1) then some false else if fits (a + 1) then d (b, (a + 1)) else none) else none) else if fits (a + 1) then d (b, (a + 1)) else none) else some (decide ((b.length : Int) ≤ 6))) N (j, (0 : Int)))
theorem jFd (N : Nat) : mK 65 ⟨⟨[.pv (.sl (.pair .str .q))], []⟩, ⟨[pB], []⟩, c1A (jE4 N)⟩ :=
 mO (fC (jgp N) (fC (jBX N) ja)) Tryz.func65 rfl N (.seq .no (.seq (.seq .no (.block (.loop jGb .no))) .no)) _
def jdI (N : Nat) : Option ((List Z0)) :=
 (some ([([105, 110, 103] : List UInt8), ([101, 100] : List UInt8), ([101, 115] : List UInt8), ([108, 121] : List UInt8), ([115] : List UInt8)] : List Z0))
theorem jkj (N : Nat) : mK 271 ⟨⟨[], []⟩, ⟨[.own 1 .str 9 true], []⟩, fun a => jdI N ⟩ :=
 mO ja Tryz.func271 rfl N .no _
def jl2 : Sh := ⟨pS :: .dead :: .dead :: pI :: dz 30 [], []⟩
def ja6 (N : Nat) (j : List UInt8) : Option (Z0) :=
 (iter (fun d (a, b) => oB (jdI N) fun e => bif decide (b < (e.length : Int)) then oB (jdI N) fun i => (oB (idx i b) fun c => if fits ((a.length : Int) - (c.length : Int)) then bif decide ((3 : Int) ≤ ((a.length : Int) - (c.length : Int))) then oB (cut a ((a.length : Int) - (c.length : Int)) (a.length : Int)) fun h => (bif decide (h = c) then oB (cut a 0 ((a.length : Int) - (c.length : Int))) fun k => (some k) else if fits (b + 1) then d (a, (b + 1)) else none) else (if fits (b + 1) then d (a, (b + 1)) else none) else none) else some a) N (j, (0 : Int)))
theorem jtL (N : Nat) : mK 208 ⟨⟨[pS], []⟩, ⟨[pS], []⟩, c1A (ja6 N)⟩ :=
 mO (fC (jkj N) ja) Tryz.func208 rfl N (.seq .no (.seq (.seq .no (.block (.loop jl2 .no))) .no)) _
def jto : Sh := ⟨pS :: dz 9 [], []⟩
def jaq (N : Nat) (d : List UInt8) : Option (Z0) :=
 (iter (fun e (b : Z0) => let s2 := b; (oB (ja6 N s2) fun a => bif !decide (a = s2) then oB (ja6 N s2) fun c => (e c) else some s2)) N d)
theorem jfZ (N : Nat) : mK 141 ⟨⟨[pS], []⟩, ⟨[pS], []⟩, c1A (jaq N)⟩ :=
 mO (fC (jtL N) ja) Tryz.func141 rfl N (.seq .no (.seq (.block (.loop jto .no)) .no)) _
def jlY : Sh := ⟨.pv (.sl .str) :: pS :: dz 3 (pI :: dz 12 []), []⟩
def jap (N : Nat) (e : List Z0) (h : List UInt8) : Z7 :=
 (iter (fun d (b, c, a) => bif decide (a < (b.length : Int)) then oB (idx b a) fun i => (bif decide (i = c) then some true else if fits (a + 1) then d (b, c, (a + 1)) else none) else some false) N (e, h, (0 : Int)))
theorem jhP (N : Nat) : mK 142 ⟨⟨[.pv (.sl .str), pS], []⟩, ⟨[pB], []⟩, c2A (jap N)⟩ :=
 mO ja Tryz.func142 rfl N (.seq .no (.seq (.seq .no (.block (.loop jlY .no))) .no)) _
def jrs : Sh := ⟨.dead :: .box 1 0 :: .dead :: pI :: dz 114 [], [(1, false, [.pv (.sl .str), .pv Y15])]⟩
def js0 : Sh := ⟨.dead :: .box 1 0 :: .dead :: .dead :: pI :: dz 113 [], [(1, false, [.pv (.sl .str), .pv Y15])]⟩
def jrc : Sh := ⟨.dead :: .box 1 0 :: .dead :: .dead :: pI :: .box 5 0 :: pI :: dz 111 [], [(1, false, [.pv (.sl .str), .pv Y15]), (5, false, [.pv (.sl .str), pS])]⟩
def jcw (N : Nat) (C : List Z0) (K : List Z3) : Z7 :=
 (iter (fun p (a, c, j) => bif decide (a < (c.length : Int)) then oB (idx c a) fun A => (oB (jT N A) fun w => bif !w then some false else bif decide ((0 : Int) < a) then oB (idx c a) fun r => (if fits (a - 1) then oB (idx c (a - 1)) fun n => (bif Op.bytesLess r n || decide (r = n) then some false else if fits (a + 1) then p ((a + 1), c, j) else none) else none) else if fits (a + 1) then p ((a + 1), c, j) else none) else iter (fun G (i, o, h) => bif decide (i < (h.length : Int)) then oB (idx h i) fun q => (iter (fun x (k, b, l, m, d, f) => bif decide (b < (d.length : Int)) then oB (idx d b) fun u => (oB (jT N u) fun y => bif !y then some false else oB (idx d b) fun D => oB (jaq N D) fun t => oB (idx d b) fun B => bif !decide (t = B) then some false else oB (idx d b) fun v => oB (jap N l v) fun E => bif E then some false else if fits (b + 1) then x (k, (b + 1), l, m, d, f) else none) else oB (jJ N (d.length : Int) 1 3) fun H => bif !H then some false else oB (jT N f) fun z => bif !z then some false else oB (jaq N f) fun I => bif !decide (I = f) then some false else if fits (k + 1) then G ((k + 1), l, m) else none) N (i, (0 : Int), o, h, q.1, q.2)) else bif decide ((o.length : Int) ≤ 6) then some (decide ((h.length : Int) ≤ 4)) else some false) N ((0 : Int), c, j)) N ((0 : Int), C, K))
theorem jtf (N : Nat) : mK 66 ⟨⟨[.agg [.pv (.sl .str), .pv Y15]], []⟩, ⟨[pB], []⟩, c2A (jcw N)⟩ :=
 mO (fC (jgp N) (fC (jfZ N) (fC (jhP N) (fC (jcL N) ja)))) Tryz.func66 rfl N (.seq .no (.seq (.seq .no (.block (.loop jrs .no))) (.seq (.seq .no (.block (.loop js0 (.seq .no (.seq (.block (.seq .no (.seq (.seq .no (.block (.loop jrc .no))) .no))) .no))))) .no))) _
def jot : Sh := ⟨pS :: .dead :: .dead :: pI :: dz 19 [], []⟩
def jcu (N : Nat) (f : List UInt8) : Z7 :=
 (iter (fun d (b, a) => bif decide (a < (b.length : Int)) then oB (idx b a) fun c => (bif decide ((c.toNat : Int) < 32) then some false else oB (idx b a) fun h => bif decide ((126 : Int) < (h.toNat : Int)) then some false else if fits (a + 1) then d (b, (a + 1)) else none) else some (decide ((b.length : Int) ≤ 160))) N (f, (0 : Int)))
theorem jpZ (N : Nat) : mK 143 ⟨⟨[pS], []⟩, ⟨[pB], []⟩, c1A (jcu N)⟩ :=
 mO ja Tryz.func143 rfl N (.seq .no (.seq (.seq .no (.block (.loop jot .no))) .no)) _
def jp0 : Sh := ⟨.dead :: .box 1 0 :: .dead :: pI :: dz 100 [], [(1, false, [pI, .pv Y18, .pv Y14])]⟩
def jtP : Sh := ⟨.dead :: .box 1 0 :: dz 3 (pI :: dz 98 []), [(1, false, [pI, .pv Y18, .pv Y14])]⟩
def jcb (N : Nat) (z : Int) (q : Z10) (x : Z6) : Z7 :=
 (iter (fun m (b, f, d, h) => bif decide (b < (d.length : Int)) then oB (idx d b) fun e => (oB (jT N e.1) fun t => bif !t then some false else oB (jcu N e.2) fun v => bif !v then some false else bif decide ((0 : Int) < b) then if fits (b - 1) then oB (idx d (b - 1)) fun p => (bif Op.bytesLess e.1 p.1 || decide (e.1 = p.1) then some false else if fits (b + 1) then m ((b + 1), f, d, h) else none) else none else if fits (b + 1) then m ((b + 1), f, d, h) else none) else iter (fun o (a, i, k, c) => bif decide (a < (c.length : Int)) then oB (idx c a) fun u => (oB (jT N u.1) fun r => bif !r then some false else oB (idx c a) fun B => oB (jJ N B.2 0 999999999) fun y => bif !y then some false else bif decide ((0 : Int) < a) then oB (idx c a) fun l => (if fits (a - 1) then oB (idx c (a - 1)) fun n => (bif Op.bytesLess l.1 n.1 || decide (l.1 = n.1) then some false else if fits (a + 1) then o ((a + 1), i, k, c) else none) else none) else if fits (a + 1) then o ((a + 1), i, k, c) else none) else oB (jJ N i 1 9999) fun A => bif A then oB (jJ N (k.length : Int) 0 3) fun w => (bif w then some (decide ((c.length : Int) ≤ 3)) else some false) else some false) N ((0 : Int), f, d, h)) N ((0 : Int), z, q, x))
theorem jpD (N : Nat) : mK 67 ⟨⟨[.agg [pI, .pv Y18, .pv Y14]], []⟩, ⟨[pB], []⟩, c3A (jcb N)⟩ :=
 mO (fC (jgp N) (fC (jpZ N) (fC (jcL N) ja))) Tryz.func67 rfl N (.seq .no (.seq (.seq .no (.block (.loop jp0 .no))) (.seq (.seq .no (.block (.loop jtP .no))) .no))) _
def jl5 : Sh := ⟨.pv (.sl .str) :: pS :: dz 3 (pI :: dz 42 []), []⟩
def s_l7Put_m (N : Nat) (m : List Z0) (o : List UInt8) : Option ((List Z0)) :=
 (iter (fun q (a, c, b) => bif decide (b < (a.length : Int)) then oB (idx a b) fun p => (bif Op.bytesLess p c then if fits (b + 1) then q (a, c, (b + 1)) else none else bif decide (b < (a.length : Int)) then oB (idx a b) fun t => (bif decide (t = c) then some a else oB (cut a 0 b) fun e => if room ([] : List Z0).length e.length 16 then if room (([] : List Z0) ++ e).length ([c] : List Z0).length 16 then oB (cut a b (a.length : Int)) fun k => (if room ((([] : List Z0) ++ e) ++ ([c] : List Z0)).length k.length 16 then some (((([] : List Z0) ++ e) ++ ([c] : List Z0)) ++ k) else none) else none else none) else oB (cut a 0 b) fun d => if room ([] : List Z0).length d.length 16 then if room (([] : List Z0) ++ d).length ([c] : List Z0).length 16 then oB (cut a b (a.length : Int)) fun i => (if room ((([] : List Z0) ++ d) ++ ([c] : List Z0)).length i.length 16 then some (((([] : List Z0) ++ d) ++ ([c] : List Z0)) ++ i) else none) else none else none) else bif decide (b < (a.length : Int)) then oB (idx a b) fun n => (bif decide (n = c) then some a else oB (cut a 0 b) fun f => if room ([] : List Z0).length f.length 16 then if room (([] : List Z0) ++ f).length ([c] : List Z0).length 16 then oB (cut a b (a.length : Int)) fun j => (if room ((([] : List Z0) ++ f) ++ ([c] : List Z0)).length j.length 16 then some (((([] : List Z0) ++ f) ++ ([c] : List Z0)) ++ j) else none) else none else none) else oB (cut a 0 b) fun h => if room ([] : List Z0).length h.length 16 then if room (([] : List Z0) ++ h).length ([c] : List Z0).length 16 then oB (cut a b (a.length : Int)) fun l => (if room ((([] : List Z0) ++ h) ++ ([c] : List Z0)).length l.length 16 then some (((([] : List Z0) ++ h) ++ ([c] : List Z0)) ++ l) else none) else none else none) N (m, o, (0 : Int)))
theorem jgt (N : Nat) : mK 209 ⟨⟨[.pv (.sl .str), pS], []⟩, ⟨[.pv (.sl .str)], []⟩, c2A (s_l7Put_m N)⟩ :=
 mO ja Tryz.func209 rfl N (.seq .no (.seq .no (.seq (.block (.loop jl5 .no)) .no))) _
def joT : Sh := ⟨.pv Y2 :: .dead :: .dead :: .pv (.sl .str) :: pI :: dz 30 [], []⟩
def jkn : Sh := ⟨.pv Y2 :: .dead :: .dead :: .pv (.sl .str) :: pI :: pI :: dz 29 [], []⟩
def s_l7Names_m (N : Nat) (k : List Z2) : Option ((List Z0)) :=
 (iter (fun j (i, f, e) => bif decide (e < (i.length : Int)) then iter (fun l (c, h, a, b) => oB (idx c a) fun o => bif decide (b < (o.2.1.length : Int)) then oB (idx c a) fun p => (oB (idx p.2.1 b) fun n => oB (s_l7Put_m N h n.1) fun m => if fits (b + 1) then l (c, m, a, (b + 1)) else none) else if fits (a + 1) then j (c, h, (a + 1)) else none) N (i, f, e, (0 : Int)) else some f) N (k, ([] : List Z0), (0 : Int)))
theorem jlz (N : Nat) : mK 144 ⟨⟨[.pv Y2], []⟩, ⟨[.pv (.sl .str)], []⟩, c1A (s_l7Names_m N)⟩ :=
 mO (fC (jgt N) ja) Tryz.func144 rfl N (.seq .no (.seq .no (.seq (.seq .no (.block (.loop joT (.seq .no (.seq (.block (.seq .no (.block (.loop jkn .no)))) .no))))) .no))) _
def jl8 : Sh := ⟨.dead :: pS :: .box 2 0 :: .dead :: .dead :: pI :: dz 21 [], [(2, false, [pI, .pv Y18, .pv Y14])]⟩
def s_l6Field_m (N : Nat) (j : Int) (d : Z10) (h : Z6) (l : List UInt8) : Option (Z0) :=
 (iter (fun f (c, a, e, b, i) => bif decide (a < (b.length : Int)) then oB (idx b a) fun m => (bif decide (m.1 = c) then oB (idx b a) fun n => (some n.2) else if fits (a + 1) then f (c, (a + 1), e, b, i) else none) else some ([] : List UInt8)) N (l, (0 : Int), j, d, h))
theorem jhA (N : Nat) : mK 211 ⟨⟨[.agg [pI, .pv Y18, .pv Y14], pS], []⟩, ⟨[pS], []⟩, c4A (s_l6Field_m N)⟩ :=
 mO ja Tryz.func211 rfl N (.seq .no (.seq (.seq .no (.block (.loop jl8 .no))) .no)) _
def jo3 : Sh := ⟨pS :: .dead :: .dead :: .own 600003 Y6 231 true :: pI :: dz 50 [], []⟩
def jm6 : Sh := ⟨pS :: .dead :: .dead :: .own 600003 Y6 231 true :: pI :: .own 600005 (.int .u8) 5 true :: pI :: dz 48 [], []⟩
def jtK : Sh := ⟨pS :: .dead :: .dead :: .own 600003 Y6 231 true :: pI :: .pv (.sl (.int .u8)) :: pI :: dz 48 [], []⟩
def jb3 (N : Nat) (A : List UInt8) : Option ((List Z8)) :=
 (iter (fun l (v, x, n) => bif decide (n < (v.length : Int)) then iter (fun D (c, i, a, b, j) => bif decide (a < (c.length : Int)) then oB (idx c a) fun C => (oB (jt N (C.toNat : Int)) fun z => bif !decide (z = 0) then oB (idx c a) fun G => (oB (jt N (G.toNat : Int)) fun r => if room b.length ([r] : List Int).length 1 then if fits (a + 1) then D (c, i, (a + 1), (b ++ ([r] : List Int)), j) else none else none) else meet (fun (d : Z0 × (List Z8) × Int × (List Int) × Int) => match d with | (q, k, e, m, t) => bif decide ((0 : Int) < (m.length : Int)) then if room k.length ([((bytesOf m), (k.length : Int), t, e)] : List Z8).length 40 then if fits (e + 1) then l (q, (k ++ ([((bytesOf m), (k.length : Int), t, e)] : List Z8)), (e + 1)) else none else none else if fits (e + 1) then l (q, k, (e + 1)) else none) fun u => bif decide ((12 : Int) < (b.length : Int)) then oB (cut b 0 12) fun E => (u (c, i, a, E, j)) else u (c, i, a, b, j)) else meet (fun (d : Z0 × (List Z8) × Int × (List Int) × Int) => match d with | (y, h, f, o, w) => bif decide ((0 : Int) < (o.length : Int)) then if room h.length ([((bytesOf o), (h.length : Int), w, f)] : List Z8).length 40 then if fits (f + 1) then l (y, (h ++ ([((bytesOf o), (h.length : Int), w, f)] : List Z8)), (f + 1)) else none else none else if fits (f + 1) then l (y, h, (f + 1)) else none) fun p => bif decide ((12 : Int) < (b.length : Int)) then oB (cut b 0 12) fun B => (p (c, i, a, B, j)) else p (c, i, a, b, j)) N (v, x, n, ([] : List Int), n) else some x) N (A, ([] : List Z8), (0 : Int)))
theorem jsr (N : Nat) : mK 319 ⟨⟨[pS], []⟩, ⟨[.own 1 Y6 231 true], []⟩, c1A (jb3 N)⟩ :=
 mO (fC (jfG N) ja) Tryz.func319 rfl N (.seq .no (.seq .no (.seq (.seq .no (.block (.loop jo3 (.seq .no (.seq (.block (.seq .no (.seq .no (.seq (.block (.loop jm6 .no)) (.meet jtK .no .no))))) .no))))) .no))) _
def jmf : Sh := ⟨.dead :: .dead :: .box 2 0 :: .dead :: .dead :: .own 600005 Y16 151 true :: .own 600006 Y6 231 true :: pI :: dz 43 [], [(2, false, [.pv (.sl .str), .pv Y15])]⟩
def jbY (N : Nat) (n : List Z0) (q : List Z3) (l : List UInt8) : Option (Z5) :=
 (oB (jb3 N l) fun k => iter (fun h (d, b, a, c, e) => bif decide (a < (b.length : Int)) then oB (idx b a) fun m => (oB (jaq N m.1) fun f => oB (idx b a) fun r => oB (jap N c r.1) fun j => bif !j then oB (jap N c f) fun o => (bif !o then oB (idx b a) fun i => (if room d.length ([(f, i.2.1)] : Z6).length 24 then if fits (a + 1) then h ((d ++ ([(f, i.2.1)] : Z6)), b, (a + 1), c, e) else none else none) else if fits (a + 1) then h (d, b, (a + 1), c, e) else none) else if fits (a + 1) then h (d, b, (a + 1), c, e) else none) else some d) N (([] : Z6), k, (0 : Int), n, q))
theorem jrk (N : Nat) : mK 272 ⟨⟨[.agg [.pv (.sl .str), .pv Y15], pS], []⟩, ⟨[.own 1 Y16 151 true], []⟩, c3A (jbY N)⟩ :=
 mO (fC (jsr N) (fC (jfZ N) (fC (jhP N) ja))) Tryz.func272 rfl N (.seq .no (.seq .no (.seq .no (.seq (.seq .no (.block (.loop jmf .no))) .no)))) _
def jrL : Sh := ⟨.pv Y14 :: .pv (.sl .str) :: dz 3 (pI :: dz 36 []), []⟩
def jcC (N : Nat) (i : Z6) (h : List Z0) : Z7 :=
 (iter (fun e (b, c, a) => bif decide (a < (c.length : Int)) then bif decide ((b.length : Int) ≤ a) then some false else (oB (idx b a) fun f => oB (idx c a) fun l => bif !decide (f.1 = l) then some false else oB (idx b a) fun j => oB (idx b 0) fun d => if fits (d.2 + a) then bif !decide (j.2 = (d.2 + a)) then some false else (if fits (a + 1) then e (b, c, (a + 1)) else none) else none) else some true) N (i, h, (0 : Int)))
theorem jtg (N : Nat) : mK 320 ⟨⟨[.pv Y14, .pv (.sl .str)], []⟩, ⟨[pB], []⟩, c2A (jcC N)⟩ :=
 mO ja Tryz.func320 rfl N (.seq .no (.seq (.seq .no (.block (.loop jrL .no))) .no)) _
def jlL : Sh := ⟨.dead :: .pv Y14 :: .box 2 0 :: .dead :: .dead :: pI :: pI :: dz 38 [], [(2, false, [.pv (.sl .str), .pv Y15])]⟩
def jcJ (N : Nat) (h : List Z0) (m : List Z3) (j : Z6) : Z12 :=
 (iter (fun e (c, d, a, f, b) => bif decide (a < (b.length : Int)) then oB (idx b a) fun n => (oB (jcC N c n.1) fun i => bif i then bif decide (d < 0) then if fits (a + 1) then e (c, a, (a + 1), f, b) else none else (oB (idx b a) fun o => oB (idx b d) fun k => bif decide ((k.1.length : Int) < (o.1.length : Int)) then if fits (a + 1) then e (c, a, (a + 1), f, b) else none else if fits (a + 1) then e (c, d, (a + 1), f, b) else none) else if fits (a + 1) then e (c, d, (a + 1), f, b) else none) else some d) N (j, ((-1) : Int), (0 : Int), h, m))
theorem jqp (N : Nat) : mK 273 ⟨⟨[.agg [.pv (.sl .str), .pv Y15], .pv Y14], []⟩, ⟨[pI], []⟩, c3A (jcJ N)⟩ :=
 mO (fC (jtg N) ja) Tryz.func273 rfl N (.seq .no (.seq .no (.seq (.seq .no (.block (.loop jlL .no))) .no))) _
def jnK : Sh := ⟨.dead :: .dead :: .box 2 0 :: .dead :: .dead :: .own 600005 Y16 151 true :: .pv Y14 :: dz 45 [], [(2, false, [.pv (.sl .str), .pv Y15])]⟩
def ja5 (N : Nat) (i : List Z0) (k : List Z3) (n : List UInt8) : Option (Z5) :=
 (oB (jbY N i k n) fun m => iter (fun j (c, a, d, b) => bif decide ((0 : Int) < (a.length : Int)) then oB (jcJ N d b a) fun e => (bif decide (e < 0) then oB (idx a 0) fun h => (if room c.length ([h] : Z6).length 24 then oB (cut a 1 (a.length : Int)) fun q => (j ((c ++ ([h] : Z6)), q, d, b)) else none) else oB (idx b e) fun l => oB (idx a 0) fun f => if room c.length ([(l.2, f.2)] : Z6).length 24 then oB (idx b e) fun r => (oB (cut a (r.1.length : Int) (a.length : Int)) fun o => j ((c ++ ([(l.2, f.2)] : Z6)), o, d, b)) else none) else some c) N (([] : Z6), m, i, k))
theorem jiO (N : Nat) : mK 210 ⟨⟨[.agg [.pv (.sl .str), .pv Y15], pS], []⟩, ⟨[.own 1 Y16 151 true], []⟩, c3A (ja5 N)⟩ :=
 mO (fC (jrk N) (fC (jqp N) ja)) Tryz.func210 rfl N (.seq .no (.seq .no (.seq .no (.seq (.block (.loop jnK .no)) .no)))) _
def jn9 : Sh := ⟨.dead :: .pv Y2 :: pS :: .box 3 0 :: dz 3 (.pv (.sl .str) :: pI :: dz 31 []), [(3, false, [.pv (.sl .str), .pv Y15])]⟩
def jrT : Sh := ⟨.dead :: .pv Y2 :: pS :: .box 3 0 :: dz 3 (.pv (.sl .str) :: pI :: .own 600009 Y16 151 true :: pI :: dz 29 []), [(3, false, [.pv (.sl .str), .pv Y15])]⟩
def s_l7Terms_m (N : Nat) (w : List Z0) (A : List Z3) (y : List Z2) (r : List UInt8) : Option ((List Z0)) :=
 (iter (fun x (e, k, o, c, j, i) => bif decide (c < (e.length : Int)) then oB (idx e c) fun f => (oB (s_l6Field_m N f.1 f.2.1 f.2.2 k) fun u => oB (ja5 N j i u) fun v => iter (fun z (n, m, q, b, d, a, l, p) => bif decide (a < (d.length : Int)) then oB (idx d a) fun B => (oB (s_l7Put_m N q B.1) fun t => if fits (a + 1) then z (n, m, t, b, d, (a + 1), l, p) else none) else if fits (b + 1) then x (n, m, q, (b + 1), l, p) else none) N (e, k, o, c, v, (0 : Int), j, i)) else some o) N (y, r, ([] : List Z0), (0 : Int), w, A))
theorem jqQ (N : Nat) : mK 145 ⟨⟨[.agg [.pv (.sl .str), .pv Y15], .pv Y2, pS], []⟩, ⟨[.pv (.sl .str)], []⟩, c4A (s_l7Terms_m N)⟩ :=
 mO (fC (jhA N) (fC (jiO N) (fC (jgt N) ja))) Tryz.func145 rfl N (.seq .no (.seq .no (.seq (.seq .no (.block (.loop jn9 (.seq .no (.seq (.block (.seq .no (.seq .no (.block (.loop jrT .no))))) .no))))) .no))) _
def jnY : Sh := ⟨dz 3 (pS :: dz 5 (.own 600009 tI 3 true :: .own 600010 Y16 151 true :: pI :: dz 28 [])), []⟩
def s_l7Post_m (N : Nat) (m : List Z0) (r : List Z3) (o : Int) (i : Z10) (n : Z6) (h : List UInt8) (q : List UInt8) : Option ((List Int)) :=
 (oB (s_l6Field_m N o i n h) fun j => oB (ja5 N m r j) fun k => iter (fun e (d, c, b, a) => bif decide (a < (b.length : Int)) then oB (idx b a) fun l => (bif decide (l.1 = d) then oB (idx b a) fun f => (if room c.length ([f.2] : List Int).length 8 then if fits (a + 1) then e (d, (c ++ ([f.2] : List Int)), b, (a + 1)) else none else none) else if fits (a + 1) then e (d, c, b, (a + 1)) else none) else some c) N (q, ([] : List Int), k, (0 : Int)))
theorem js6 (N : Nat) : mK 212 ⟨⟨[.agg [.pv (.sl .str), .pv Y15], .agg [pI, .pv Y18, .pv Y14], pS, pS], []⟩, ⟨[.own 1 tI 3 true], []⟩, c7A (s_l7Post_m N)⟩ :=
 mO (fC (jhA N) (fC (jiO N) ja)) Tryz.func212 rfl N (.seq .no (.seq .no (.seq .no (.seq (.seq .no (.block (.loop jnY .no))) .no)))) _
def jkw : Sh := ⟨.dead :: .pv Y2 :: pS :: pS :: .box 4 0 :: dz 3 (.box 8 0 :: .box 9 0 :: pI :: dz 34 []), [(4, false, [.pv (.sl .str), .pv Y15]), (8, false, [pS, pS, .nils]), (9, false, [pS, pS, .own 700902 Y12 239 true])]⟩
def s_l7Entry_m (N : Nat) (t : List Z0) (w : List Z3) (u : List Z2) (m : List UInt8) (r : List UInt8) : Option Z1 :=
 (iter (fun p (b, h, j, a, f, d, q, o, i, l, c) => bif decide (a < (b.length : Int)) then oB (idx b a) fun k => (oB (s_l7Post_m N f d k.1 k.2.1 k.2.2 h j) fun e => bif decide ((0 : Int) < (e.length : Int)) then oB (idx b a) fun n => (if room c.length ([(n.1, e)] : Z4).length 32 then if fits (a + 1) then p (b, h, j, (a + 1), f, d, q, o, i, l, (c ++ ([(n.1, e)] : Z4))) else none else none) else if fits (a + 1) then p (b, h, j, (a + 1), f, d, q, o, i, l, c) else none) else some (i, l, c)) N (u, m, r, (0 : Int), t, w, ([] : List UInt8), ([] : List UInt8), m, r, ([] : Z4)))
theorem jtr (N : Nat) : mK 146 ⟨⟨[.agg [.pv (.sl .str), .pv Y15], .pv Y2, pS, pS], []⟩, ⟨[.agg [pS, pS, .own 1 Y12 239 true]], []⟩, c5A (s_l7Entry_m N)⟩ :=
 mO (fC (js6 N) ja) Tryz.func146 rfl N (.seq .no (.seq .no (.seq (.seq .no (.block (.loop jkw .no))) .no))) _
def s_l7CopyDoc_m (N : Nat) (c : Int) (a : Z10) (b : Z6) : Option Z2 :=
 (if room ([] : Z10).length a.length 32 then if room ([] : Z6).length b.length 24 then some (c, (([] : Z10) ++ a), (([] : Z6) ++ b)) else none else none)
theorem jtC (N : Nat) : mK 147 ⟨⟨[.agg [pI, .pv Y18, .pv Y14]], []⟩, ⟨[.agg [pI, .own 1 Y19 143 true, .own 2 Y16 145 true]], []⟩, c3A (s_l7CopyDoc_m N)⟩ :=
 mO ja Tryz.func147 rfl N .no _
def jn8 : Sh := ⟨.dead :: .pv Y2 :: .box 2 0 :: .dead :: .box 4 0 :: .box 5 0 :: .pv (.sl .str) :: pI :: dz 58 [], [(2, false, [.pv (.sl .str), .pv Y15]), (4, false, [.nils, .nils]), (5, false, [.nils, .own 700501 Y5 156 true])]⟩
def jpr : Sh := ⟨.dead :: .pv Y2 :: .box 2 0 :: .dead :: .box 4 0 :: .box 5 0 :: .pv (.sl .str) :: pI :: .pv (.sl .str) :: pI :: dz 56 [], [(2, false, [.pv (.sl .str), .pv Y15]), (4, false, [.nils, .nils]), (5, false, [.nils, .own 700501 Y5 156 true])]⟩
def jn0 : Sh := ⟨.dead :: .pv Y2 :: .dead :: .dead :: .box 4 0 :: .box 5 0 :: dz 4 (pI :: dz 55 []), [(4, false, [.nils, .nils]), (5, false, [.own 700500 Y3 44 true, .own 700501 Y5 156 true])]⟩
def s_l7Of_m (N : Nat) (E : List Z0) (I : List Z3) (y : List Z2) : Option ((List Z2) × (List Z1)) :=
 (oB (s_l7Names_m N y) fun z => iter (fun G (h, o, f, u, t, v) => bif decide (f < (o.length : Int)) then oB (idx o f) fun D => (oB (s_l7Terms_m N u t h D) fun B => iter (fun H (l, e, b, j, c, k, m, i) => bif decide (c < (j.length : Int)) then oB (idx e b) fun K => (oB (idx j c) fun A => oB (s_l7Entry_m N k m l K A) fun r => if room i.length ([r] : List Z1).length 56 then if fits (c + 1) then H (l, e, b, j, (c + 1), k, m, (i ++ ([r] : List Z1))) else none else none) else if fits (b + 1) then G (l, e, (b + 1), k, m, i) else none) N (h, o, f, B, (0 : Int), u, t, v)) else iter (fun C (q, d, n, w) => bif decide (d < (q.length : Int)) then oB (idx q d) fun p => (oB (s_l7CopyDoc_m N p.1 p.2.1 p.2.2) fun x => if room n.length ([x] : List Z2).length 56 then if fits (d + 1) then C (q, (d + 1), (n ++ ([x] : List Z2)), w) else none else none) else some (n, w)) N (h, (0 : Int), ([] : List Z2), v)) N (y, z, (0 : Int), E, I, ([] : List Z1)))
theorem jmU (N : Nat) : mK 68 ⟨⟨[.agg [.pv (.sl .str), .pv Y15], .pv Y2], []⟩, ⟨[.agg [.own 1 Y3 44 true, .own 2 Y5 156 true]], []⟩, c3A (s_l7Of_m N)⟩ :=
 mO (fC (jlz N) (fC (jqQ N) (fC (jtr N) (fC (jtC N) ja)))) Tryz.func68 rfl N (.seq .no (.seq .no (.seq .no (.seq (.seq .no (.block (.loop jn8 (.seq .no (.seq (.block (.seq .no (.seq .no (.block (.loop jpr .no))))) .no))))) (.seq (.seq .no (.block (.loop jn0 .no))) .no))))) _
def jyC (N : Nat) (a : List Z0) (d : List Z3) (c : List UInt8) : Option (Z0) :=
 (oB (jcw N a d) fun e => bif !e then some ([] : List UInt8) else oB (jT N c) fun f => bif !f then some ([] : List UInt8) else oB (ja5 N a d c) fun b => bif decide ((b.length : Int) = 0) then some ([] : List UInt8) else oB (idx b 0) fun h => some h.1)
theorem jCy (N : Nat) : mK 149 ⟨⟨[.agg [.pv (.sl .str), .pv Y15], pS], []⟩, ⟨[pS], []⟩, c3A (jyC N)⟩ :=
 mO (fC (jtf N) (fC (jgp N) (fC (jiO N) ja))) Tryz.func149 rfl N .no _
def jtm : Sh := ⟨.dead :: pS :: pS :: .box 3 0 :: dz 3 (pI :: dz 31 []), [(3, false, [.pv Y2, .pv Y4])]⟩
def s_l7Posts_m (N : Nat) (k : List Z2) (n : List Z1) (h : List UInt8) (j : List UInt8) : Option (Z14) :=
 (iter (fun e (c, d, a, f, b) => bif decide (a < (b.length : Int)) then oB (idx b a) fun m => (bif decide (m.1 = c) then oB (idx b a) fun o => (bif decide (o.2.1 = d) then oB (idx b a) fun i => (some i.2.2) else if fits (a + 1) then e (c, d, (a + 1), f, b) else none) else if fits (a + 1) then e (c, d, (a + 1), f, b) else none) else some ([] : Z4)) N (h, j, (0 : Int), k, n))
theorem jh6 (N : Nat) : mK 217 ⟨⟨[.agg [.pv Y2, .pv Y4], pS, pS], []⟩, ⟨[.pv Y11], []⟩, c4A (s_l7Posts_m N)⟩ :=
 mO ja Tryz.func217 rfl N (.seq .no (.seq (.seq .no (.block (.loop jtm .no))) .no)) _
def jst : Sh := ⟨dz 3 (pI :: dz 5 (.pv Y11 :: pI :: dz 22 [])), []⟩
def s_l12At_m (N : Nat) (j : List Z2) (l : List Z1) (d : List UInt8) (i : List UInt8) (m : Int) : Option ((List Int)) :=
 (oB (s_l7Posts_m N j l d i) fun f => iter (fun e (c, b, a) => bif decide (a < (b.length : Int)) then oB (idx b a) fun k => (bif decide (k.1 = c) then oB (idx b a) fun n => (some n.2) else if fits (a + 1) then e (c, b, (a + 1)) else none) else some ([] : List Int)) N (m, f, (0 : Int)))
theorem jn1 (N : Nat) : mK 213 ⟨⟨[.agg [.pv Y2, .pv Y4], pS, pS, pI], []⟩, ⟨[.pv Y20], []⟩, c5A (s_l12At_m N)⟩ :=
 mO (fC (jh6 N) ja) Tryz.func213 rfl N (.seq .no (.seq .no (.seq (.seq .no (.block (.loop jst .no))) .no))) _
def jqS : Sh := ⟨.dead :: pS :: pI :: .box 3 0 :: dz 3 (pI :: pI :: dz 55 []), [(3, false, [.pv Y2, .pv Y4])]⟩
def jm7 : Sh := ⟨.dead :: pS :: pI :: .box 3 0 :: dz 3 (pI :: pI :: pI :: dz 54 []), [(3, false, [.pv Y2, .pv Y4])]⟩
def s_l7Long_m (N : Nat) (v : List Z2) (x : List Z1) (p : List UInt8) (A : Int) : Z12 :=
 (iter (fun m (u, r, k, j, y, l) => bif decide (j < (l.length : Int)) then iter (fun o (e, d, f, a, c, h, b) => oB (idx b a) fun w => bif decide (c < (w.2.2.length : Int)) then oB (idx b a) fun B => (bif decide (B.1 = e) then oB (idx b a) fun t => (oB (idx t.2.2 c) fun z => bif decide (z.1 = d) then oB (idx b a) fun q => (oB (idx q.2.2 c) fun n => if fits (f + (n.2.length : Int)) then if fits (c + 1) then o (e, d, (f + (n.2.length : Int)), a, (c + 1), h, b) else none else none) else if fits (c + 1) then o (e, d, f, a, (c + 1), h, b) else none) else if fits (a + 1) then m (e, d, f, (a + 1), h, b) else none) else if fits (a + 1) then m (e, d, f, (a + 1), h, b) else none) N (u, r, k, j, (0 : Int), y, l) else some k) N (p, A, (0 : Int), (0 : Int), v, x))
theorem jrY (N : Nat) : mK 215 ⟨⟨[.agg [.pv Y2, .pv Y4], pS, pI], []⟩, ⟨[pI], []⟩, c4A (s_l7Long_m N)⟩ :=
 mO ja Tryz.func215 rfl N (.seq .no (.seq .no (.seq (.seq .no (.block (.loop jqS (.seq .no (.seq (.block (.seq .no (.block (.loop jm7 .no)))) .no))))) .no))) _
def jsB : Sh := ⟨.dead :: pS :: .box 2 0 :: .dead :: .dead :: pI :: pI :: dz 43 [], [(2, false, [.pv Y2, .pv Y4])]⟩
def jnl : Sh := ⟨.dead :: pS :: .box 2 0 :: .dead :: .dead :: pI :: pI :: pI :: dz 42 [], [(2, false, [.pv Y2, .pv Y4])]⟩
def s_l12Total_m (N : Nat) (q : List Z2) (t : List Z1) (n : List UInt8) : Z12 :=
 (iter (fun l (p, j, i, v, k) => bif decide (i < (k.length : Int)) then iter (fun u (d, e, a, c, f, b) => oB (idx b a) fun r => bif decide (c < (r.2.2.length : Int)) then oB (idx b a) fun w => (bif decide (w.1 = d) then oB (idx b a) fun o => (oB (idx o.2.2 c) fun m => if fits (e + (m.2.length : Int)) then if fits (c + 1) then u (d, (e + (m.2.length : Int)), a, (c + 1), f, b) else none else none) else if fits (a + 1) then l (d, e, (a + 1), f, b) else none) else if fits (a + 1) then l (d, e, (a + 1), f, b) else none) N (p, j, i, (0 : Int), v, k) else some j) N (n, (0 : Int), (0 : Int), q, t))
theorem jn2 (N : Nat) : mK 216 ⟨⟨[.agg [.pv Y2, .pv Y4], pS], []⟩, ⟨[pI], []⟩, c3A (s_l12Total_m N)⟩ :=
 mO ja Tryz.func216 rfl N (.seq .no (.seq .no (.seq (.seq .no (.block (.loop jsB (.seq .no (.seq (.block (.seq .no (.block (.loop jnl .no)))) .no))))) .no))) _
def jsx : Sh := ⟨pI :: pI :: dz 3 (pI :: dz 13 []), []⟩
def jbz (N : Nat) (h : Int) (e : Int) : Z12 :=
 (iter (fun d (a, c, b) => bif decide ((0 : Int) < a) then if fits (a * 2) then bif decide ((a * 2) ≤ c) then if fits (a * 2) then if fits (b + 1) then d ((a * 2), c, (b + 1)) else none else none else (some b) else none else some b) N (h, e, (0 : Int)))
theorem jkd (N : Nat) : mK 275 ⟨⟨[pI, pI], []⟩, ⟨[pI], []⟩, c2A (jbz N)⟩ :=
 mO ja Tryz.func275 rfl N (.seq .no (.seq .no (.seq (.block (.loop jsx .no)) .no))) _
def jkC : Sh := ⟨pI :: pI :: dz 15 [], []⟩
def jaY (N : Nat) : (D : Nat) → Int → Int → Z12
 | 0, _, _ => none
 | D + 1, a, b =>
 meet (fun (g : Int × Int) =>
 match g with
 | (a2, b2) =>
 bif decide (b2 = 0) then
 some a2
 else
 if b2 ≠ 0 then
 oB (jaY N D b2 (a2.tmod b2)) fun r =>
 (some r)
 else none) fun J =>
 bif decide (a < 0) then
 if fits (0 - a) then J ((0 - a), b) else none
 else
 J (a, b)
def jcQ (N D : Nat) : Model := ⟨⟨[pI, pI], []⟩, ⟨[pI], []⟩, c2A (jaY N D)⟩
theorem jlI (N D : Nat) (ih : mK 321 (jcQ N D)) : mK 321 (jcQ N (D + 1)) :=
 mO (fC ih ja) Tryz.func321 rfl N (.seq .no (.meet jkC .no .no)) (jcQ N (D + 1))
theorem jeF (N : Nat) : ∀ D, mK 321 (jcQ N D)
 | 0 => modelOk_none ⟨_, Tryz.func321, by decide, by kernel_rfl⟩ _ (fun a => rfl)
 | D + 1 => jlI N D (jeF N D)
def jlg : Sh := ⟨pI :: pI :: .dead :: .dead :: .box 4 0 :: dz 17 [], [(4, false, [pI, pI])]⟩
def jcf (N : Nat) (d : Int) (b : Int) : Option (Int × Int) :=
 (meet (fun (h : Int × Int × Int × Int) => match h with | (e, c, i, j) => oB (jaY N N e c) fun a => if a ≠ 0 then if fits (e.tdiv a) then if a ≠ 0 then if fits (c.tdiv a) then some ((e.tdiv a), (c.tdiv a)) else none else none else none else none) fun f => bif decide (b < 0) then if fits (0 - d) then if fits (0 - b) then f ((0 - d), (0 - b), 0, 0) else none else none else f (d, b, 0, 0))
theorem jn4 (N : Nat) : mK 274 ⟨⟨[pI, pI], []⟩, ⟨[.agg [pI, pI]], []⟩, c2A (jcf N)⟩ :=
 mO (fC (jeF N N) ja) Tryz.func274 rfl N (.seq .no (.meet jlg .no .no)) _
def jqT : Sh := ⟨pI :: .dead :: .dead :: pI :: pI :: dz 5 (.box 10 0 :: pI :: dz 21 []), [(10, false, [pI, pI])]⟩
def s_l12Term_m (N : Nat) (i : Int) (d : Int) (e : Int) (a : Int) (k : Int) : Option (Int × Int) :=
 (meet (fun (m : Int × Int × Int × Int × Int × Int) => match m with | (b, n, l, f, p, o) => oB (jbz N l n) fun c => if fits (1 + c) then if fits ((1 + c) * 22) then if fits (((1 + c) * 22) * b) then if fits (10 * b) then if fits ((10 * b) + 3) then if fits (((10 * b) + 3) + f) then oB (jcf N (((1 + c) * 22) * b) (((10 * b) + 3) + f)) fun h => (some (h.1, h.2)) else none else none else none else none else none else none) fun j => bif decide ((0 : Int) < e) then if fits (d * a) then if fits ((d * a) * 9) then if e ≠ 0 then if fits (((d * a) * 9).tdiv e) then j (i, a, k, (((d * a) * 9).tdiv e), 0, 0) else none else none else none else none else j (i, a, k, 1, 0, 0))
theorem jtF (N : Nat) : mK 214 ⟨⟨[pI, pI, pI, pI, pI], []⟩, ⟨[.agg [pI, pI]], []⟩, c5A (s_l12Term_m N)⟩ :=
 mO (fC (jkd N) (fC (jn4 N) ja)) Tryz.func214 rfl N (.seq .no (.seq .no (.meet jqT .no .no))) _
def s_l12Points_m (N : Nat) (b : List Z2) (d : List Z1) (c : List UInt8) (f : List UInt8) (h : Int) : Z12 :=
 (oB (s_l12At_m N b d c f h) fun e => bif decide ((e.length : Int) = 0) then some 0 else oB (s_l7Long_m N b d c h) fun k => oB (s_l12Total_m N b d c) fun i => oB (s_l7Posts_m N b d c f) fun j => oB (s_l12Term_m N (e.length : Int) k i (b.length : Int) (j.length : Int)) fun a => if fits (a.1 * 1000) then if a.2 ≠ 0 then if fits ((a.1 * 1000).tdiv a.2) then some ((a.1 * 1000).tdiv a.2) else none else none else none)
theorem jrZ (N : Nat) : mK 148 ⟨⟨[.agg [.pv Y2, .pv Y4], pS, pS, pI], []⟩, ⟨[pI], []⟩, c5A (s_l12Points_m N)⟩ :=
 mO (fC (jn1 N) (fC (jrY N) (fC (jn2 N) (fC (jh6 N) (fC (jtF N) ja))))) Tryz.func148 rfl N .no _
def jAu : Sh := ⟨.pv (.sl .str) :: pS :: dz 3 (pS :: pI :: dz 18 []), []⟩
def jxS (N : Nat) (o : List Z0) (m : List UInt8) : Option (Z0) :=
 (iter (fun l (d, a, c, b) => bif decide (b < (d.length : Int)) then meet (fun (e : (List Z0) × Z0 × Z0 × Int) => match e with | (h, n, j, f) => oB (idx h f) fun i => if j.length + i.length ≤ 9223372036854775807 then if fits (f + 1) then l (h, n, (j ++ i), (f + 1)) else none else none) fun k => (bif decide ((0 : Int) < b) then if c.length + a.length ≤ 9223372036854775807 then k (d, a, (c ++ a), b) else none else k (d, a, c, b)) else some c) N (o, m, ([] : List UInt8), (0 : Int)))
theorem jAy (N : Nat) : mK 220 ⟨⟨[.pv (.sl .str), pS], []⟩, ⟨[pS], []⟩, c2A (jxS N)⟩ :=
 mO ja Tryz.func220 rfl N (.seq .no (.seq .no (.seq (.seq .no (.block (.loop jAu (.seq .no (.seq (.block (.meet jAu .no .no)) .no))))) .no))) _
def jB2 : Sh := ⟨dz 3 (pI :: .dead :: .box 5 0 :: .box 6 0 :: .dead :: .dead :: .own 600009 Y20 66 true :: .own 600010 Y16 151 true :: pI :: dz 65 []), [(5, false, [.pv Y2, .pv Y4]), (6, false, [pI, pS, .pv (.sl .str), pI, pI, .pv (.sl .q)])]⟩
def jCf : Sh := ⟨dz 3 (pI :: .dead :: .box 5 0 :: .box 6 0 :: .dead :: .dead :: .own 600009 Y20 66 true :: .own 600010 Y16 151 true :: pI :: pI :: .pv Y20 :: .own 600014 tI 3 true :: pI :: dz 61 []), [(5, false, [.pv Y2, .pv Y4]), (6, false, [pI, pS, .pv (.sl .str), pI, pI, .pv (.sl .q)])]⟩
def jyf (N : Nat) (W : List Z0) (ac : List Z3) (H : List Z2) (I : List Z1) (K : Int) (R : List UInt8) (E : List Z0) (ae : Int) (L : Int) (ab : List DQ) (af : Int) : Option (Z13) :=
 (oB (jxS N E ([32] : List UInt8)) fun G => oB (ja5 N W ac G) fun T => iter (fun O (y, B, d, c, D, z, aa, A, V, U, P, X) => bif decide (c < (d.length : Int)) then oB (idx d c) fun o => (oB (idx d 0) fun x => if fits (o.2 - x.2) then if fits ((o.2 - x.2) - c) then oB (idx d c) fun S => (oB (s_l12At_m N D z A S.1 y) fun Q => iter (fun C (m, h, p, i, b, f, e, a, w, t, u, v, k, r, j, n) => bif decide (a < (f.length : Int)) then oB (idx f a) fun ad => (bif decide (b ≤ ad) then oB (idx f a) fun l => (if fits (l - b) then if room e.length ([(l - b)] : List Int).length 8 then if fits (a + 1) then C (m, h, p, i, b, f, (e ++ ([(l - b)] : List Int)), (a + 1), w, t, u, v, k, r, j, n) else none else none else none) else if fits (a + 1) then C (m, h, p, i, b, f, e, (a + 1), w, t, u, v, k, r, j, n) else none) else if room h.length ([e] : List (List Int)).length 24 then if fits (i + 1) then O (m, (h ++ ([e] : List (List Int))), p, (i + 1), w, t, u, v, k, r, j, n) else none else none) N (y, B, d, c, ((o.2 - x.2) - c), Q, ([] : List Int), (0 : Int), D, z, aa, A, V, U, P, X)) else none else none) else some B) N (af, ([] : List (List Int)), T, (0 : Int), H, I, K, R, E, ae, L, ab))
theorem jCm (N : Nat) : mK 218 ⟨⟨[.agg [.pv (.sl .str), .pv Y15], .agg [.pv Y2, .pv Y4], .agg [pI, pS, .pv (.sl .str), pI, pI, .pv (.sl .q)], pI], []⟩, ⟨[.own 1 Y20 66 true], []⟩, c11A (jyf N)⟩ :=
 mO (fC (jAy N) (fC (jiO N) (fC (jn1 N) ja))) Tryz.func218 rfl N (.seq .no (.seq .no (.seq .no (.seq (.seq .no (.block (.loop jB2 (.seq .no (.seq (.block (.seq .no (.seq .no (.seq .no (.seq (.seq .no (.block (.loop jCf .no))) .no))))) .no))))) .no)))) _
def jCI : Sh := ⟨.pv Y20 :: .dead :: .dead :: pI :: dz 31 [], []⟩
def jx3 (N : Nat) (e : List Int) : Z7 :=
 (iter (fun c (b, a) => bif decide (a < (b.length : Int)) then oB (idx b a) fun i => (oB (jJ N i 0 999999999) fun d => bif !d then some false else bif decide ((0 : Int) < a) then oB (idx b a) fun j => (if fits (a - 1) then oB (idx b (a - 1)) fun f => (bif decide (j ≤ f) then some false else if fits (a + 1) then c (b, (a + 1)) else none) else none) else if fits (a + 1) then c (b, (a + 1)) else none) else some (decide ((b.length : Int) ≤ 60))) N (e, (0 : Int)))
theorem jC9 (N : Nat) : mK 194 ⟨⟨[.pv Y20], []⟩, ⟨[pB], []⟩, c1A (jx3 N)⟩ :=
 mO (fC (jcL N) ja) Tryz.func194 rfl N (.seq .no (.seq (.seq .no (.block (.loop jCI .no))) .no)) _
def jBI : Sh := ⟨.pv (.sl Y20) :: pI :: pI :: pI :: pI :: dz 6 (pI :: dz 46 []), []⟩
def jxJ (N : Nat) : (D : Nat) → Z13 → Int → Int → Int → Int → Z7
 | 0, _, _, _, _, _ => none
 | D + 1, lists, k, last, start, slop =>
 bif decide (k = (lists.length : Int)) then
 if fits (last - start) then if fits ((lists.length : Int) - 1) then if fits ((last - start) - ((lists.length : Int) - 1)) then some (decide (((last - start) - ((lists.length : Int) - 1)) ≤ slop)) else none else none else none
 else
 iter (fun go (g : Z13 × Int × Int × Int × Int × Int) =>
 match g with
 | (lists2, k2, last2, start2, slop2, i) =>
 oB (idx lists2 k2) fun e =>
 bif decide (i < (e.length : Int)) then
 oB (idx lists2 k2) fun e2 =>
 (oB (idx e2 i) fun e3 =>
 bif decide (last2 < e3) then
 if fits (k2 + 1) then oB (idx lists2 k2) fun e4 =>
 (oB (idx e4 i) fun e5 =>
 oB (jxJ N D lists2 (k2 + 1) e5 start2 slop2) fun r =>
 bif r then
 some true
 else
 if fits (i + 1) then go (lists2, k2, last2, start2, slop2, (i + 1)) else none) else none
 else
 if fits (i + 1) then go (lists2, k2, last2, start2, slop2, (i + 1)) else none)
 else
 some false) N (lists, k, last, start, slop, 0)
def jyj (N D : Nat) : Model := ⟨⟨[.pv (.sl Y20), pI, pI, pI, pI], []⟩, ⟨[pB], []⟩, c5A (jxJ N D)⟩
theorem jD8 (N D : Nat) (ih : mK 276 (jyj N D)) : mK 276 (jyj N (D + 1)) :=
 mO (fC ih ja) Tryz.func276 rfl N (.seq .no (.seq .no (.seq (.seq .no (.block (.loop jBI .no))) .no))) (jyj N (D + 1))
theorem jzt (N : Nat) : ∀ D, mK 276 (jyj N D)
 | 0 => modelOk_none ⟨_, Tryz.func276, by decide, by kernel_rfl⟩ _ (fun a => rfl)
 | D + 1 => jD8 N D (jzt N D)
def jCF : Sh := ⟨.pv (.sl Y20) :: pI :: dz 3 (.own 600005 tI 3 true :: pI :: dz 56 []), []⟩
def jBd : Sh := ⟨.pv (.sl Y20) :: pI :: dz 3 (.own 600005 tI 3 true :: .dead :: pI :: dz 55 []), []⟩
def jyb (N : Nat) (r : List (List Int)) (v : Int) : Option ((List Int)) :=
 (iter (fun w (c, i, k, d) => bif decide (d < (c.length : Int)) then oB (idx c d) fun t => (oB (jx3 N t) fun o => bif !o then some ([] : List Int) else if fits (d + 1) then w (c, i, k, (d + 1)) else none) else oB (jJ N (c.length : Int) 1 6) fun q => bif !q then some ([] : List Int) else oB (jJ N i 0 5) fun m => bif !m then some ([] : List Int) else iter (fun l (b, f, e, a) => oB (idx b 0) fun A => bif decide (a < (A.length : Int)) then oB (idx b 0) fun p => (oB (idx p a) fun z => oB (idx b 0) fun n => oB (idx n a) fun x => oB (jxJ N N b 1 z x f) fun y => bif y then oB (idx b 0) fun u => (oB (idx u a) fun j => if room e.length ([j] : List Int).length 8 then if fits (a + 1) then l (b, f, (e ++ ([j] : List Int)), (a + 1)) else none else none) else if fits (a + 1) then l (b, f, e, (a + 1)) else none) else some e) N (c, i, k, (0 : Int))) N (r, v, ([] : List Int), (0 : Int)))
theorem jAW (N : Nat) : mK 219 ⟨⟨[.pv (.sl Y20), pI], []⟩, ⟨[.own 1 tI 3 true], []⟩, c2A (jyb N)⟩ :=
 mO (fC (jC9 N) (fC (jcL N) (fC (jzt N N) ja))) Tryz.func219 rfl N (.seq .no (.seq .no (.seq (.seq .no (.block (.loop jCF .no))) (.seq .no (.seq (.seq .no (.block (.loop jBd .no))) .no))))) _
def jCQ : Sh := ⟨dz 3 (pI :: .dead :: .box 5 0 :: .box 6 0 :: dz 3 (pI :: pI :: .own 600012 Y16 151 true :: pI :: dz 41 [])), [(5, false, [.pv Y2, .pv Y4]), (6, false, [pI, pS, .pv (.sl .str), pI, pI, .pv (.sl .q)])]⟩
def jCS : Sh := ⟨dz 3 (pI :: .box 4 0 :: .box 5 0 :: .box 6 0 :: dz 3 (pI :: dz 44 [])), [(4, false, [.pv (.sl .str), .pv Y15]), (5, false, [.pv Y2, .pv Y4]), (6, false, [pI, pS, .pv (.sl .str), pI, pI, .pv (.sl .q)])]⟩
def jx2 (N : Nat) (m : List Z0) (p : List Z3) (d : List Z2) (e : List Z1) (h : Int) (l : List UInt8) (n : List Z0) (c : Int) (i : Int) (o : List DQ) (q : Int) : Z12 :=
 (oB (jyf N m p d e h l n c i o q) fun r => bif decide ((r.length : Int) = 0) then some 0 else oB (jyb N r c) fun x => meet (fun (j : Int × Int × (List Z0) × (List Z3) × (List Z2) × (List Z1) × Int × Z0 × (List Z0) × Int × Int × (List DQ)) => match j with | (E, V, T, D, O, G, aa, K, y, U, P, X) => oB (jxS N y ([32] : List UInt8)) fun R => oB (ja5 N T D R) fun W => iter (fun L (t, k, b, f, a, A, w, S, z, C, Q, B, H) => bif decide (a < (f.length : Int)) then oB (idx f a) fun I => (oB (s_l12Points_m N A w z I.1 t) fun v => if fits (b + v) then if fits (a + 1) then L (t, k, (b + v), f, (a + 1), A, w, S, z, C, Q, B, H) else none else none) else if fits (b * k) then some (b * k) else none) N (E, V, (0 : Int), W, (0 : Int), O, G, aa, K, y, U, P, X)) fun u => bif decide ((3 : Int) < (x.length : Int)) then u (q, 3, m, p, d, e, h, l, n, c, i, o) else u (q, (x.length : Int), m, p, d, e, h, l, n, c, i, o))
theorem jAL (N : Nat) : mK 150 ⟨⟨[.agg [.pv (.sl .str), .pv Y15], .agg [.pv Y2, .pv Y4], .agg [pI, pS, .pv (.sl .str), pI, pI, .pv (.sl .q)], pI], []⟩, ⟨[pI], []⟩, c11A (jx2 N)⟩ :=
 mO (fC (jCm N) (fC (jAW N) (fC (jAy N) (fC (jiO N) (fC (jrZ N) ja))))) Tryz.func150 rfl N (.seq .no (.seq .no (.seq .no (.seq .no (.meet jCS .no (.seq .no (.seq .no (.seq (.seq .no (.block (.loop jCQ .no))) .no)))))))) _
def s_l5Min_m (N : Nat) (b : Int) (a : Int) : Z12 :=
 (bif decide (b < a) then some b else some a)
theorem jDQ (N : Nat) : mK 277 ⟨⟨[pI, pI], []⟩, ⟨[pI], []⟩, c2A (s_l5Min_m N)⟩ :=
 mO ja Tryz.func277 rfl N .no _
def jCw : Sh := ⟨pS :: pS :: dz 3 (.mtk 600005 tI 3 true :: pI :: dz 74 []), []⟩
def jDJ : Sh := ⟨pS :: pS :: dz 3 (.mtk 600005 tI 3 true :: .dead :: pI :: dz 73 []), []⟩
def jDM : Sh := ⟨pS :: pS :: dz 3 (.mtk 600005 tI 3 true :: .dead :: pI :: pI :: pI :: dz 71 []), []⟩
def jBZ : Sh := ⟨pS :: pS :: dz 3 (.mtk 600005 tI 3 true :: .dead :: pI :: .dead :: pI :: pI :: dz 70 []), []⟩
def s_l5Far_m (N : Nat) (G : List UInt8) (c : List UInt8) : Z12 :=
 (if fits ((c.length : Int) + 1) then if ((c.length : Int) + 1) = ((c.length : Int) + 1) ∧ 0 ≤ ((c.length : Int) + 1) ∧ ((c.length : Int) + 1) * 8 ≤ 140737488355328 ∧ ((c.length : Int) + 1) ≤ 140737488355328 then iter (fun A (v, o, n, d) => bif decide (d ≤ (o.length : Int)) then if 0 ≤ d ∧ d < (n.length : Int) then oB (n[d.toNat]?) fun Q => (if fits (d + 1) then A (v, o, (n.set d.toNat d), (d + 1)) else none) else none else iter (fun E (u, m, f, k) => bif decide (k < (u.length : Int)) then if 0 ≤ (0 : Int) ∧ (0 : Int) < (f.length : Int) then oB (f[(0 : Int).toNat]?) fun H => (if fits (k + 1) then if 0 ≤ (0 : Int) ∧ (0 : Int) < (f.length : Int) then oB (f[(0 : Int).toNat]?) fun S => (iter (fun y (l, h, q, i, p, j) => bif decide (j < (h.length : Int)) then meet (fun (e : Z15) => match e with | (D, C, b, z, a, I) => if fits (a + 1) then if 0 ≤ (a + 1) ∧ (a + 1) < (b.length : Int) then oB (b[(a + 1).toNat]?) fun P => (if fits (a + 1) then if 0 ≤ a ∧ a < (b.length : Int) then oB (b[a.toNat]?) fun w => (if fits (a + 1) then if 0 ≤ (a + 1) ∧ (a + 1) < (b.length : Int) then oB (b[(a + 1).toNat]?) fun B => (oB (s_l5Min_m N w B) fun r => if fits (r + 1) then oB (s_l5Min_m N I (r + 1)) fun K => (if 0 ≤ (a + 1) ∧ (a + 1) < (b.length : Int) then oB (b[(a + 1).toNat]?) fun R => (if fits (a + 1) then y (D, C, (b.set (a + 1).toNat K), z, P, (a + 1)) else none) else none) else none) else none else none) else none else none) else none else none) fun t => (oB (idx l i) fun L => oB (idx h j) fun O => bif !decide ((L.toNat : Int) = (O.toNat : Int)) then if fits (p + 1) then t (l, h, q, i, j, (p + 1)) else none else t (l, h, q, i, j, p)) else if fits (i + 1) then E (l, h, q, (i + 1)) else none) N (u, m, (f.set (0 : Int).toNat (k + 1)), k, H, (0 : Int))) else none else none) else none else if 0 ≤ (m.length : Int) ∧ (m.length : Int) < (f.length : Int) then oB (f[(m.length : Int).toNat]?) fun x => (some x) else none) N (v, o, n, (0 : Int))) N (G, c, (List.replicate ((c.length : Int) + 1).toNat 0), (0 : Int)) else none else none)
theorem jBt (N : Nat) : mK 221 ⟨⟨[pS, pS], []⟩, ⟨[pI], []⟩, c2A (s_l5Far_m N)⟩ :=
 mO (fC (jDQ N) ja) Tryz.func221 rfl N (.seq .no (.seq .no (.seq (.seq .no (.block (.loop jCw .no))) (.seq (.seq .no (.block (.loop jDJ (.seq .no (.seq (.block (.seq .no (.seq .no (.seq .no (.block (.loop jDM (.seq .no (.seq (.block (.seq .no (.meet jBZ .no .no))) .no)))))))) .no))))) .no)))) _ (wr := [14])
def jC5 : Sh := ⟨.dead :: .dead :: pI :: .box 3 0 :: .box 4 0 :: .dead :: .dead :: pI :: pI :: dz 49 [], [(3, false, [.pv Y2, .pv Y4]), (4, false, [pI, pS, .pv (.sl .str), pI, pI, .pv (.sl .q)])]⟩
def jx5 (N : Nat) (r : List Z2) (t : List Z1) (u : Int) (q : List UInt8) (w : List Z0) (z : Int) (v : Int) (y : List DQ) (A : Int) : Z12 :=
 (iter (fun l (e, h, a, j, b, o, d, i, f, m, n) => bif decide (a < (b.length : Int)) then oB (idx b a) fun p => (oB (idx i 0) fun B => oB (s_l5Far_m N p.2.1 B) fun c => bif !decide (p.1 = d) then if fits (a + 1) then l (e, h, (a + 1), j, b, o, d, i, f, m, n) else none else bif decide (f < c) then if fits (a + 1) then l (e, h, (a + 1), j, b, o, d, i, f, m, n) else none else oB (s_l12Points_m N j b d p.2.1 e) fun k => if fits (3 - c) then if fits (k * (3 - c)) then if 3 ≠ 0 then if fits ((k * (3 - c)).tdiv 3) then bif decide (h < ((k * (3 - c)).tdiv 3)) then if fits (a + 1) then l (e, ((k * (3 - c)).tdiv 3), (a + 1), j, b, o, d, i, f, m, n) else none else (if fits (a + 1) then l (e, h, (a + 1), j, b, o, d, i, f, m, n) else none) else none else none else none else none) else some h) N (A, (0 : Int), (0 : Int), r, t, u, q, w, z, v, y))
theorem jCb (N : Nat) : mK 151 ⟨⟨[.agg [.pv Y2, .pv Y4], .agg [pI, pS, .pv (.sl .str), pI, pI, .pv (.sl .q)], pI], []⟩, ⟨[pI], []⟩, c9A (jx5 N)⟩ :=
 mO (fC (jBt N) (fC (jrZ N) ja)) Tryz.func151 rfl N (.seq .no (.seq .no (.seq (.seq .no (.block (.loop jC5 .no))) .no))) _
def jxB (N : Nat) : (D : Nat) → Z0 → Z0 → Z7
 | 0, _, _ => none
 | D + 1, p, s =>
 bif decide (p = ([] : List UInt8)) then
 some (decide (s = ([] : List UInt8)))
 else
 oB (idx p 0) fun c =>
 bif decide ((c.toNat : Int) = 42) then
 oB (cut p 1 (p.length : Int)) fun y =>
 (oB (jxB N D y s) fun r =>
 bif r then
 some true
 else
 bif !decide (s = ([] : List UInt8)) then
 oB (cut s 1 (s.length : Int)) fun y2 =>
 (oB (jxB N D p y2) fun r2 =>
 some r2)
 else
 some false)
 else
 bif !decide (s = ([] : List UInt8)) then
 oB (idx p 0) fun c2 =>
 (bif decide ((c2.toNat : Int) = 63) then
 oB (cut p 1 (p.length : Int)) fun y3 =>
 (oB (cut s 1 (s.length : Int)) fun y4 =>
 oB (jxB N D y3 y4) fun r3 =>
 some r3)
 else
 oB (idx p 0) fun c3 =>
 oB (idx s 0) fun c4 =>
 bif decide ((c3.toNat : Int) = (c4.toNat : Int)) then
 oB (cut p 1 (p.length : Int)) fun y5 =>
 (oB (cut s 1 (s.length : Int)) fun y6 =>
 oB (jxB N D y5 y6) fun r4 =>
 some r4)
 else
 some false)
 else
 some false
def jyr (N D : Nat) : Model := ⟨⟨[pS, pS], []⟩, ⟨[pB], []⟩, c2A (jxB N D)⟩
theorem jDg (N D : Nat) (ih : mK 222 (jyr N D)) : mK 222 (jyr N (D + 1)) :=
 mO (fC ih ja) Tryz.func222 rfl N .no (jyr N (D + 1))
theorem jzM (N : Nat) : ∀ D, mK 222 (jyr N D)
 | 0 => modelOk_none ⟨_, Tryz.func222, by decide, by kernel_rfl⟩ _ (fun a => rfl)
 | D + 1 => jDg N D (jzM N D)
def jBi : Sh := ⟨.dead :: .dead :: pI :: .box 3 0 :: .box 4 0 :: .dead :: .dead :: pI :: dz 38 [], [(3, false, [.pv Y2, .pv Y4]), (4, false, [pI, pS, .pv (.sl .str), pI, pI, .pv (.sl .q)])]⟩
def jyd (N : Nat) (q : List Z2) (r : List Z1) (t : Int) (o : List UInt8) (v : List Z0) (y : Int) (u : Int) (x : List DQ) (z : Int) : Z7 :=
 (iter (fun j (d, a, f, b, m, c, e, h, k, l) => bif decide (a < (b.length : Int)) then oB (idx b a) fun i => (bif decide (i.1 = c) then oB (idx e 0) fun A => (oB (jxB N N A i.2.1) fun n => bif n then oB (s_l12At_m N f b c i.2.1 d) fun p => (bif decide ((0 : Int) < (p.length : Int)) then some true else if fits (a + 1) then j (d, (a + 1), f, b, m, c, e, h, k, l) else none) else if fits (a + 1) then j (d, (a + 1), f, b, m, c, e, h, k, l) else none) else if fits (a + 1) then j (d, (a + 1), f, b, m, c, e, h, k, l) else none) else some false) N (z, (0 : Int), q, r, t, o, v, y, u, x))
theorem jCi (N : Nat) : mK 153 ⟨⟨[.agg [.pv Y2, .pv Y4], .agg [pI, pS, .pv (.sl .str), pI, pI, .pv (.sl .q)], pI], []⟩, ⟨[pB], []⟩, c9A (jyd N)⟩ :=
 mO (fC (jzM N N) (fC (jn1 N) ja)) Tryz.func153 rfl N (.seq .no (.seq (.seq .no (.block (.loop jBi .no))) .no)) _
def jyV (N : Nat) (a : Bool) : Z12 :=
 (bif a then some 100 else some 0)
theorem jCo (N : Nat) : mK 152 ⟨⟨[pB], []⟩, ⟨[pI], []⟩, c1A (jyV N)⟩ :=
 mO ja Tryz.func152 rfl N .no _
def jA0 : Sh := ⟨.dead :: pI :: .box 2 0 :: .dead :: .box 4 0 :: pI :: dz 21 [], [(2, false, [.pv Y2, .pv Y4]), (4, false, [pI, .nils, .nils])]⟩
def jyv (N : Nat) (j : List Z2) (l : List Z1) (m : Int) : Option Z2 :=
 (iter (fun e (d, a, b, h, f) => bif decide (a < (b.length : Int)) then oB (idx b a) fun k => (bif decide (k.1 = d) then oB (idx b a) fun c => (some (c.1, c.2.1, c.2.2)) else if fits (a + 1) then e (d, (a + 1), b, h, f) else none) else some (0, ([] : Z10), ([] : Z6))) N (m, (0 : Int), j, l, (0 : Int)))
theorem jDn (N : Nat) : mK 155 ⟨⟨[.agg [.pv Y2, .pv Y4], pI], []⟩, ⟨[.agg [pI, .pv Y18, .pv Y14]], []⟩, c3A (jyv N)⟩ :=
 mO ja Tryz.func155 rfl N (.seq .no (.seq (.seq .no (.block (.loop jA0 .no))) .no)) _
def jym (N : Nat) (j : Int) (e : Z10) (i : Z6) (l : List UInt8) : Z12 :=
 (iter (fun h (c, a, f, d, b) => bif decide (a < (b.length : Int)) then oB (idx b a) fun m => (bif decide (m.1 = c) then oB (idx b a) fun n => (some n.2) else if fits (a + 1) then h (c, (a + 1), f, d, b) else none) else some (-1)) N (l, (0 : Int), j, e, i))
theorem jDS (N : Nat) : mK 154 ⟨⟨[.agg [pI, .pv Y18, .pv Y14], pS], []⟩, ⟨[pI], []⟩, c4A (jym N)⟩ :=
 mO ja Tryz.func154 rfl N (.seq .no (.seq (.seq .no (.block (.loop jl8 .no))) .no)) _
def jDX : Sh := ⟨dz 3 (pI :: .box 4 0 :: .box 5 0 :: .box 6 0 :: .dead :: .dead :: pI :: pI :: dz 111 []), [(4, false, [.pv (.sl .str), .pv Y15]), (5, false, [.pv Y2, .pv Y4]), (6, false, [pI, pS, .pv (.sl .str), pI, pI, .pv (.sl .q)])]⟩
def s_l12Score_m (N : Nat) : (D : Nat) → (List Z0) → (List Z3) → (List Z2) → (List Z1) → Int → Z0 → (List Z0) → Int → Int → (List DQ) → Int → Z12
 | 0, _, _, _, _, _, _, _, _, _, _, _ => none
 | D + 1, c, c2, s, s2, q, q2, q3, q4, q5, q6, id =>
 bif decide (q = 1) then
 some 100
 else
 bif decide (q = 2) then
 oB (idx q3 0) fun e =>
 (oB (jyC N c c2 e) fun r =>
 oB (s_l12Points_m N s s2 q2 r id) fun r2 =>
 some r2)
 else
 bif decide (q = 3) then
 oB (jx2 N c c2 s s2 q q2 q3 q4 q5 q6 id) fun r3 =>
 (some r3)
 else
 bif decide (q = 4) then
 oB (jx5 N s s2 q q2 q3 q4 q5 q6 id) fun r4 =>
 (some r4)
 else
 bif decide (q = 5) then
 oB (jyd N s s2 q q2 q3 q4 q5 q6 id) fun r5 =>
 (oB (jyV N r5) fun r6 =>
 some r6)
 else
 bif decide (q = 6) then
 oB (jyv N s s2 id) fun r7 =>
 (oB (jym N r7.1 r7.2.1 r7.2.2 q2) fun r8 =>
 oB (jJ N r8 q4 q5) fun r9 =>
 oB (jyV N r9) fun r10 =>
 some r10)
 else
 bif decide (q = 10) then
 oB (idx q6 0) fun e2 =>
 (oB (s_l12Score_m N D c c2 s s2 e2.kind e2.field e2.words e2.lo e2.hi e2.kids id) fun r11 =>
 if fits (q4 * r11) then some (q4 * r11) else none)
 else
 bif decide (q = 9) then
 oB (idx q6 1) fun e3 =>
 (oB (s_l12Score_m N D c c2 s s2 e3.kind e3.field e3.words e3.lo e3.hi e3.kids id) fun r12 =>
 bif decide ((0 : Int) < r12) then
 some 0
 else
 oB (idx q6 0) fun e4 =>
 oB (s_l12Score_m N D c c2 s s2 e4.kind e4.field e4.words e4.lo e4.hi e4.kids id) fun r13 =>
 some r13)
 else
 iter (fun go (g : Int × Int × Int × (List Z0) × (List Z3) × (List Z2) × (List Z1) × Int × Z0 × (List Z0) × Int × Int × (List DQ)) =>
 match g with
 | (id2, sum, i, c3, c4, s3, s4, q7, q8, q9, q10, q11, q12) =>
 bif decide (i < (q12.length : Int)) then
 oB (idx q12 i) fun e5 =>
 (oB (s_l12Score_m N D c3 c4 s3 s4 e5.kind e5.field e5.words e5.lo e5.hi e5.kids id2) fun r14 =>
 bif decide (r14 = 0) then
 bif decide (q7 = 7) then
 some 0
 else
 (if fits (sum + r14) then if fits (i + 1) then go (id2, (sum + r14), (i + 1), c3, c4, s3, s4, q7, q8, q9, q10, q11, q12) else none else none)
 else
 if fits (sum + r14) then if fits (i + 1) then go (id2, (sum + r14), (i + 1), c3, c4, s3, s4, q7, q8, q9, q10, q11, q12) else none else none)
 else
 some sum) N (id, 0, 0, c, c2, s, s2, q, q2, q3, q4, q5, q6)
def jyz (N D : Nat) : Model := ⟨⟨[.agg [.pv (.sl .str), .pv Y15], .agg [.pv Y2, .pv Y4], .agg [pI, pS, .pv (.sl .str), pI, pI, .pv (.sl .q)], pI], []⟩, ⟨[pI], []⟩, c11A (s_l12Score_m N D)⟩
theorem jBH (N D : Nat) (ih : mK 69 (jyz N D)) : mK 69 (jyz N (D + 1)) :=
 mO (fC ih (fC (jCy N) (fC (jrZ N) (fC (jAL N) (fC (jCb N) (fC (jCi N) (fC (jCo N) (fC (jDn N) (fC (jDS N) (fC (jcL N) ja)))))))))) Tryz.func69 rfl N (.seq .no (.seq .no (.seq .no (.seq (.seq .no (.block (.loop jDX .no))) .no)))) (jyz N (D + 1))
theorem jz7 (N : Nat) : ∀ D, mK 69 (jyz N D)
 | 0 => modelOk_none ⟨_, Tryz.func69, by decide, by kernel_rfl⟩ _ (fun a => rfl)
 | D + 1 => jBH N D (jz7 N D)
def jF6 : Sh := ⟨.pv (.sl (.pair .str .q)) :: dz 3 (.box 4 0 :: .box 5 0 :: .dead :: .own 600007 .str 9 true :: .box 8 0 :: pI :: dz 44 []), [(4, false, [.pv (.sl .str), .pv Y15]), (5, false, [pI, .pv Y18, .pv Y14]), (8, false, [.own 700800 Y3 44 true, .own 700801 Y5 156 true])]⟩
def s_AlertOf_m (N : Nat) (p : List (Z0 × DQ)) (l : List Z0) (o : List Z3) (n : Int) (e : Z10) (m : Z6) : Option ((List Z0)) :=
 (oB (jE4 N p) fun x => bif !x then some ([] : List Z0) else oB (jcw N l o) fun y => bif !y then some ([] : List Z0) else oB (jcb N n e m) fun w => bif !w then some ([] : List Z0) else oB (s_l7Of_m N l o ([(n, e, m)] : List Z2)) fun t => iter (fun r (c, d, a, h, f, k, q, u, i, j) => bif decide (a < (c.length : Int)) then oB (idx c a) fun b => (oB (s_l12Score_m N N h f i j b.2.kind b.2.field b.2.words b.2.lo b.2.hi b.2.kids k) fun A => bif decide ((0 : Int) < A) then oB (idx c a) fun v => (if room d.length ([v.1] : List Z0).length 16 then if fits (a + 1) then r (c, (d ++ ([v.1] : List Z0)), (a + 1), h, f, k, q, u, i, j) else none else none) else if fits (a + 1) then r (c, d, (a + 1), h, f, k, q, u, i, j) else none) else some d) N (p, ([] : List Z0), (0 : Int), l, o, n, e, m, t.1, t.2))
theorem jFZ (N : Nat) : mK 11 ⟨⟨[.pv (.sl (.pair .str .q)), .agg [.pv (.sl .str), .pv Y15], .agg [pI, .pv Y18, .pv Y14]], []⟩, ⟨[.own 1 .str 9 true], []⟩, c6A (s_AlertOf_m N)⟩ :=
 mO (fC (jFd N) (fC (jtf N) (fC (jpD N) (fC (jmU N) (fC (jz7 N N) ja))))) Tryz.func11 rfl N (.seq .no (.seq .no (.seq .no (.seq .no (.seq (.seq .no (.block (.loop jF6 .no))) .no))))) _
def jaw (N : Nat) (a : Int) : Z7 :=
 (bif decide ((97 : Int) ≤ a) then bif decide (a ≤ 122) then some true else (bif decide ((48 : Int) ≤ a) then some (decide (a ≤ 57)) else some false) else bif decide ((48 : Int) ≤ a) then some (decide (a ≤ 57)) else some false)
theorem jeK (N : Nat) : mK 167 ⟨⟨[.pv (.int .u8)], []⟩, ⟨[pB], []⟩, c1A (jaw N)⟩ :=
 mO ja Tryz.func167 rfl N .no _
def jm (N : Nat) (a : Int) (b : Int) (c : Int) : Z7 :=
 (bif decide (b ≤ a) then some (decide (a ≤ c)) else some false)
theorem jY (N : Nat) : mK 91 ⟨⟨[pI, pI, pI], []⟩, ⟨[pB], []⟩, c3A (jm N)⟩ :=
 mO ja Tryz.func91 rfl N .no _
def jqW : Sh := ⟨pS :: dz 4 (pI :: pI :: dz 11 []), []⟩
def jO (N : Nat) (c : List UInt8) : Z7 :=
 (iter (fun f (b, d, a) => bif decide (a < d) then oB (idx b a) fun e => (oB (jaw N (e.toNat : Int)) fun h => bif !h then some false else if fits (a + 1) then f (b, d, (a + 1)) else none) else oB (jm N (b.length : Int) 1 12) fun j => some j) N (c, (c.length : Int), (0 : Int)))
theorem jcM (N : Nat) : mK 89 ⟨⟨[pS], []⟩, ⟨[pB], []⟩, c1A (jO N)⟩ :=
 mO (fC (jeK N) (fC (jY N) ja)) Tryz.func89 rfl N (.seq .no (.seq (.seq .no (.block (.loop jqW .no))) .no)) _
def jDx : Sh := ⟨pS :: dz 4 (pI :: pI :: dz 23 []), []⟩
def jxV (N : Nat) (e : List UInt8) : Z7 :=
 (iter (fun d (b, c, a) => bif decide (a < c) then oB (idx b a) fun f => (oB (jaw N (f.toNat : Int)) fun h => bif !h then oB (idx b a) fun l => (bif !decide ((l.toNat : Int) = 42) then oB (idx b a) fun i => (bif !decide ((i.toNat : Int) = 63) then some false else if fits (a + 1) then d (b, c, (a + 1)) else none) else if fits (a + 1) then d (b, c, (a + 1)) else none) else if fits (a + 1) then d (b, c, (a + 1)) else none) else oB (jm N (b.length : Int) 1 12) fun k => some k) N (e, (e.length : Int), (0 : Int)))
theorem jz9 (N : Nat) : mK 190 ⟨⟨[pS], []⟩, ⟨[pB], []⟩, c1A (jxV N)⟩ :=
 mO (fC (jeK N) (fC (jY N) ja)) Tryz.func190 rfl N (.seq .no (.seq (.seq .no (.block (.loop jDx .no))) .no)) _
def jBs : Sh := ⟨.dead :: pI :: .box 2 0 :: dz 90 (.pv (.sl .str) :: pI :: pI :: dz 39 []), [(2, false, [pI, pS, .pv (.sl .str), pI, pI, .pv (.sl .q)])]⟩
def jC6 : Sh := ⟨.dead :: pI :: dz 121 (.pv (.sl .q) :: pI :: pI :: dz 9 []), []⟩
def jDY : Sh := ⟨.dead :: pI :: .box 2 0 :: dz 132 [], [(2, false, [pI, pS, .pv (.sl .str), pI, pI, .pv (.sl .q)])]⟩
def jzZ : Sh := ⟨.dead :: pI :: .box 2 0 :: .dead :: .dead :: .box 5 0 :: dz 129 [], [(2, false, [pI, pS, .pv (.sl .str), pI, pI, .pv (.sl .q)]), (5, false, [pB, pI, pI, pI, pI, pB, pI, pI])]⟩
def jxE (N : Nat) : (D : Nat) → Int → Z0 → (List Z0) → Int → Int → (List DQ) → Int → Z7
 | 0, _, _, _, _, _, _, _ => none
 | D + 1, q, q2, q3, q4, q5, q6, deep =>
 meet (fun (g : Z16) =>
 match g with
 | (deep2, q7, q8, q9, q10, q11, q12, x, x2, x3, x4, x5, x6, x7, x8) =>
 meet (fun (g : Z16) =>
 match g with
 | (deep3, q13, q14, q15, q16, q17, q18, x9, x10, x11, x12, x13, x14, x15, x16) =>
 meet (fun (g : Int × Int × Z0 × (List Z0) × Int × Int × (List DQ)) =>
 match g with
 | (deep4, q19, q20, q21, q22, q23, q24) =>
 iter (fun go (g : Int × (List Z0) × Int × Int × Int × Z0 × (List Z0) × Int × Int × (List DQ)) =>
 match g with
 | (deep5, t93, t94, t95, q25, q26, q27, q28, q29, q30) =>
 bif decide (t95 < t94) then
 oB (idx t93 t95) fun e =>
 (bif decide (q25 = 5) then
 oB (jxV N e) fun r6 =>
 (bif !r6 then
 some false
 else
 oB (jO N e) fun r7 =>
 bif r7 then
 some false
 else
 bif !decide (q25 = 5) then
 oB (jO N e) fun r8 =>
 (bif !r8 then
 some false
 else
 if fits (t95 + 1) then go (deep5, t93, t94, (t95 + 1), q25, q26, q27, q28, q29, q30) else none)
 else
 if fits (t95 + 1) then go (deep5, t93, t94, (t95 + 1), q25, q26, q27, q28, q29, q30) else none)
 else
 bif !decide (q25 = 5) then
 oB (jO N e) fun r9 =>
 (bif !r9 then
 some false
 else
 if fits (t95 + 1) then go (deep5, t93, t94, (t95 + 1), q25, q26, q27, q28, q29, q30) else none)
 else
 if fits (t95 + 1) then go (deep5, t93, t94, (t95 + 1), q25, q26, q27, q28, q29, q30) else none)
 else
 iter (fun go2 (g : Int × (List DQ) × Int × Int) =>
 match g with
 | (deep6, t123, t124, t125) =>
 bif decide (t125 < t124) then
 oB (idx t123 t125) fun e2 =>
 (if fits (deep6 - 1) then oB (jxE N D e2.kind e2.field e2.words e2.lo e2.hi e2.kids (deep6 - 1)) fun r10 =>
 (bif !r10 then
 some false
 else
 if fits (t125 + 1) then go2 (deep6, t123, t124, (t125 + 1)) else none) else none)
 else
 some true) N (deep5, q30, (q30.length : Int), 0)) N (deep4, q21, (q21.length : Int), 0, q19, q20, q21, q22, q23, q24)) fun J3 =>
 bif x14 then
 oB (jm N q17 q16 999999999) fun r5 =>
 (bif !r5 then
 some false
 else
 bif !x14 then
 bif !decide (q17 = 0) then
 some false
 else
 (J3 (deep3, q13, q14, q15, q16, q17, q18))
 else
 J3 (deep3, q13, q14, q15, q16, q17, q18))
 else
 bif !x14 then
 bif !decide (q17 = 0) then
 some false
 else
 (J3 (deep3, q13, q14, q15, q16, q17, q18))
 else
 J3 (deep3, q13, q14, q15, q16, q17, q18)) fun J2 =>
 oB (jm N (q9.length : Int) x2 x3) fun r2 =>
 bif !r2 then
 some false
 else
 oB (jm N (q12.length : Int) x7 x8) fun r3 =>
 bif !r3 then
 some false
 else
 oB (jm N q10 x4 x5) fun r4 =>
 bif !r4 then
 some false
 else
 J2 (deep2, q7, q8, q9, q10, q11, q12, x, x2, x3, x4, x5, x6, x7, x8)) fun J =>
 bif !((mget tI (.pair .bool (.pair tI (.pair tI (.pair tI (.pair tI (.pair .bool Y13)))))) gm_shapes q).isSome) then
 some false
 else
 bif decide (deep < 1) then
 some false
 else
 bif !((((mget tI (.pair .bool (.pair tI (.pair tI (.pair tI (.pair tI (.pair .bool Y13)))))) gm_shapes q).getD (false, (0, (0, (0, (0, (false, (0, 0)))))))).1) == (!decide (q2 = ([] : List UInt8)))) then
 some false
 else
 bif ((mget tI (.pair .bool (.pair tI (.pair tI (.pair tI (.pair tI (.pair .bool Y13)))))) gm_shapes q).getD (false, (0, (0, (0, (0, (false, (0, 0)))))))).1 then
 oB (jO N q2) fun r =>
 (bif !r then
 some false
 else
 J (deep, q, q2, q3, q4, q5, q6, ((mget tI (.pair .bool (.pair tI (.pair tI (.pair tI (.pair tI (.pair .bool Y13)))))) gm_shapes q).getD (false, (0, (0, (0, (0, (false, (0, 0)))))))).1, (((mget tI (.pair .bool (.pair tI (.pair tI (.pair tI (.pair tI (.pair .bool Y13)))))) gm_shapes q).getD (false, (0, (0, (0, (0, (false, (0, 0)))))))).2).1, ((((mget tI (.pair .bool (.pair tI (.pair tI (.pair tI (.pair tI (.pair .bool Y13)))))) gm_shapes q).getD (false, (0, (0, (0, (0, (false, (0, 0)))))))).2).2).1, (((((mget tI (.pair .bool (.pair tI (.pair tI (.pair tI (.pair tI (.pair .bool Y13)))))) gm_shapes q).getD (false, (0, (0, (0, (0, (false, (0, 0)))))))).2).2).2).1, ((((((mget tI (.pair .bool (.pair tI (.pair tI (.pair tI (.pair tI (.pair .bool Y13)))))) gm_shapes q).getD (false, (0, (0, (0, (0, (false, (0, 0)))))))).2).2).2).2).1, (((((((mget tI (.pair .bool (.pair tI (.pair tI (.pair tI (.pair tI (.pair .bool Y13)))))) gm_shapes q).getD (false, (0, (0, (0, (0, (false, (0, 0)))))))).2).2).2).2).2).1, ((((((((mget tI (.pair .bool (.pair tI (.pair tI (.pair tI (.pair tI (.pair .bool Y13)))))) gm_shapes q).getD (false, (0, (0, (0, (0, (false, (0, 0)))))))).2).2).2).2).2).2).1, ((((((((mget tI (.pair .bool (.pair tI (.pair tI (.pair tI (.pair tI (.pair .bool Y13)))))) gm_shapes q).getD (false, (0, (0, (0, (0, (false, (0, 0)))))))).2).2).2).2).2).2).2))
 else
 J (deep, q, q2, q3, q4, q5, q6, ((mget tI (.pair .bool (.pair tI (.pair tI (.pair tI (.pair tI (.pair .bool Y13)))))) gm_shapes q).getD (false, (0, (0, (0, (0, (false, (0, 0)))))))).1, (((mget tI (.pair .bool (.pair tI (.pair tI (.pair tI (.pair tI (.pair .bool Y13)))))) gm_shapes q).getD (false, (0, (0, (0, (0, (false, (0, 0)))))))).2).1, ((((mget tI (.pair .bool (.pair tI (.pair tI (.pair tI (.pair tI (.pair .bool Y13)))))) gm_shapes q).getD (false, (0, (0, (0, (0, (false, (0, 0)))))))).2).2).1, (((((mget tI (.pair .bool (.pair tI (.pair tI (.pair tI (.pair tI (.pair .bool Y13)))))) gm_shapes q).getD (false, (0, (0, (0, (0, (false, (0, 0)))))))).2).2).2).1, ((((((mget tI (.pair .bool (.pair tI (.pair tI (.pair tI (.pair tI (.pair .bool Y13)))))) gm_shapes q).getD (false, (0, (0, (0, (0, (false, (0, 0)))))))).2).2).2).2).1, (((((((mget tI (.pair .bool (.pair tI (.pair tI (.pair tI (.pair tI (.pair .bool Y13)))))) gm_shapes q).getD (false, (0, (0, (0, (0, (false, (0, 0)))))))).2).2).2).2).2).1, ((((((((mget tI (.pair .bool (.pair tI (.pair tI (.pair tI (.pair tI (.pair .bool Y13)))))) gm_shapes q).getD (false, (0, (0, (0, (0, (false, (0, 0)))))))).2).2).2).2).2).2).1, ((((((((mget tI (.pair .bool (.pair tI (.pair tI (.pair tI (.pair tI (.pair .bool Y13)))))) gm_shapes q).getD (false, (0, (0, (0, (0, (false, (0, 0)))))))).2).2).2).2).2).2).2)
def jyl (N D : Nat) : Model := ⟨⟨[.agg [pI, pS, .pv (.sl .str), pI, pI, .pv (.sl .q)], pI], []⟩, ⟨[pB], []⟩, c7A (jxE N D)⟩
theorem jAF (N D : Nat) (ih : mK 119 (jyl N D)) : mK 119 (jyl N (D + 1)) :=
 mO (fC ih (fC (jcM N) (fC (jY N) (fC (jz9 N) ja)))) Tryz.func119 rfl N (.seq .no (.seq .no (.meet jzZ .no (.meet jzZ .no (.meet jDY .no (.seq (.seq .no (.block (.loop jBs .no))) (.seq (.seq .no (.block (.loop jC6 .no))) .no))))))) (jyl N (D + 1))
theorem jzh (N : Nat) : ∀ D, mK 119 (jyl N D)
 | 0 => modelOk_none ⟨_, Tryz.func119, by decide, by kernel_rfl⟩ _ (fun a => rfl)
 | D + 1 => jAF N D (jzh N D)
def i_QueryOk_m (N : Nat) (a : Int) (e : List UInt8) (c : List Z0) (h : Int) (b : Int) (f : List DQ) : Z7 :=
 (oB (jxE N N a e c h b f 4) fun d => some d)
theorem jCN (N : Nat) : mK 43 ⟨⟨[.agg [pI, pS, .pv (.sl .str), pI, pI, .pv (.sl .q)]], []⟩, ⟨[pB], []⟩, c6A (i_QueryOk_m N)⟩ :=
 mO (fC (jzh N N) ja) Tryz.func43 rfl N .no _
def jF0 : Sh := ⟨.pv (.sl (.pair .str .q)) :: dz 4 (.pv (.sl (.pair .str .q)) :: pI :: pI :: dz 33 []), []⟩
def i_AlertsOk_m (N : Nat) (e : List (Z0 × DQ)) : Z7 :=
 (iter (fun h (c, f, d, a) => bif decide (a < d) then oB (idx f a) fun b => (oB (jO N b.1) fun i => bif !i then some false else oB (i_QueryOk_m N b.2.kind b.2.field b.2.words b.2.lo b.2.hi b.2.kids) fun k => bif !k then some false else bif decide ((0 : Int) < a) then if fits (a - 1) then oB (idx c (a - 1)) fun l => (bif !Op.bytesLess l.1 b.1 then some false else if fits (a + 1) then h (c, f, d, (a + 1)) else none) else none else if fits (a + 1) then h (c, f, d, (a + 1)) else none) else some (decide ((c.length : Int) ≤ 6))) N (e, e, (e.length : Int), (0 : Int)))
theorem jFt (N : Nat) : mK 27 ⟨⟨[.pv (.sl (.pair .str .q))], []⟩, ⟨[pB], []⟩, c1A (i_AlertsOk_m N)⟩ :=
 mO (fC (jcM N) (fC (jCN N) ja)) Tryz.func27 rfl N (.seq .no (.seq (.seq .no (.block (.loop jF0 .no))) .no)) _
def jmc : Sh := ⟨.pv (.sl .str) :: dz 4 (.pv (.sl .str) :: pI :: pI :: dz 21 []), []⟩
def jb2 (N : Nat) (d : List Z0) : Z7 :=
 (iter (fun f (c, e, b, a) => bif decide (a < b) then oB (idx e a) fun h => (oB (jO N h) fun i => bif !i then some false else bif decide ((0 : Int) < a) then if fits (a - 1) then oB (idx c (a - 1)) fun k => (bif !Op.bytesLess k h then some false else if fits (a + 1) then f (c, e, b, (a + 1)) else none) else none else if fits (a + 1) then f (c, e, b, (a + 1)) else none) else some true) N (d, d, (d.length : Int), (0 : Int)))
theorem jtw (N : Nat) : mK 90 ⟨⟨[.pv (.sl .str)], []⟩, ⟨[pB], []⟩, c1A (jb2 N)⟩ :=
 mO (fC (jcM N) ja) Tryz.func90 rfl N (.seq .no (.seq (.seq .no (.block (.loop jmc .no))) .no)) _
def jdF (N : Nat) (a : List UInt8) (b : List UInt8) : Z7 :=
 (bif decide ((b.length : Int) ≤ (a.length : Int)) then if fits ((a.length : Int) - (b.length : Int)) then oB (cut a ((a.length : Int) - (b.length : Int)) (a.length : Int)) fun c => (some (decide (c = b))) else none else some false)
theorem jpU (N : Nat) : mK 233 ⟨⟨[pS, pS], []⟩, ⟨[pB], []⟩, c2A (jdF N)⟩ :=
 mO ja Tryz.func233 rfl N .no _
def jcN (N : Nat) (b : List UInt8) (c : List UInt8) : Z7 :=
 (oB (jdF N b c) fun a => some a)
theorem jsu (N : Nat) : mK 168 ⟨⟨[pS, pS], []⟩, ⟨[pB], []⟩, c2A (jcN N)⟩ :=
 mO (fC (jpU N) ja) Tryz.func168 rfl N .no _
def jod : Sh := ⟨pS :: .dead :: .dead :: pB :: dz 32 [], []⟩
def jnf : Sh := ⟨pS :: .dead :: .dead :: pB :: dz 6 (.own 600010 .str 9 true :: pI :: pI :: dz 23 []), []⟩
def jaB (N : Nat) (k : List UInt8) : Option (Z0) :=
 (oB (jO N k) fun n => bif !n then some ([] : List UInt8) else iter (fun i (l, m) => bif m then iter (fun j (a, f, d, e, b) => bif decide (b < e) then oB (idx d b) fun c => (oB (jcN N a c) fun o => bif o then if fits ((a.length : Int) - (c.length : Int)) then bif decide ((3 : Int) ≤ ((a.length : Int) - (c.length : Int))) then if fits ((a.length : Int) - (c.length : Int)) then oB (cut a 0 ((a.length : Int) - (c.length : Int))) fun p => (i (p, true)) else none else (if fits (b + 1) then j (a, f, d, e, (b + 1)) else none) else none else if fits (b + 1) then j (a, f, d, e, (b + 1)) else none) else i (a, f)) N (l, false, ([([105, 110, 103] : List UInt8), ([101, 100] : List UInt8), ([101, 115] : List UInt8), ([108, 121] : List UInt8), ([115] : List UInt8)] : List Z0), (([([105, 110, 103] : List UInt8), ([101, 100] : List UInt8), ([101, 115] : List UInt8), ([108, 121] : List UInt8), ([115] : List UInt8)] : List Z0).length : Int), (0 : Int)) else some l) N (k, true))
theorem jio (N : Nat) : mK 92 ⟨⟨[pS], []⟩, ⟨[pS], []⟩, c1A (jaB N)⟩ :=
 mO (fC (jcM N) (fC (jsu N) ja)) Tryz.func92 rfl N (.seq .no (.seq .no (.seq (.seq .no (.block (.loop jod (.seq .no (.block (.seq .no (.seq .no (.block (.loop jnf .no))))))))) .no))) _
def jkJ : Sh := ⟨.pv (.sl .str) :: pS :: dz 5 (pI :: pI :: dz 10 []), []⟩
def jdH (N : Nat) (d : List Z0) (h : List UInt8) : Z12 :=
 (iter (fun f (e, b, c, a) => bif decide (a < c) then oB (idx e a) fun j => (bif decide (b = j) then some a else if fits (a + 1) then f (e, b, c, (a + 1)) else none) else some (-1)) N (d, h, (d.length : Int), (0 : Int)))
theorem jkZ (N : Nat) : mK 169 ⟨⟨[.pv (.sl .str), pS], []⟩, ⟨[pI], []⟩, c2A (jdH N)⟩ :=
 mO ja Tryz.func169 rfl N (.seq .no (.seq (.seq .no (.block (.loop jkJ .no))) .no)) _
def jao (N : Nat) (c : List Z0) (b : List UInt8) : Z7 :=
 (oB (jdH N c b) fun a => some (decide ((0 : Int) ≤ a)))
theorem jh5 (N : Nat) : mK 93 ⟨⟨[.pv (.sl .str), pS], []⟩, ⟨[pB], []⟩, c2A (jao N)⟩ :=
 mO (fC (jkZ N) ja) Tryz.func93 rfl N .no _
def jmj : Sh := ⟨.dead :: .box 1 0 :: dz 22 (.pv Y15 :: pI :: pI :: dz 46 []), [(1, false, [.pv (.sl .str), .pv Y15])]⟩
def jrC : Sh := ⟨.dead :: .box 1 0 :: dz 22 (.pv Y15 :: pI :: pI :: dz 12 (pB :: dz 7 (pB :: .dead :: .dead :: .pv (.sl .str) :: pI :: pI :: dz 20 []))), [(1, false, [.pv (.sl .str), .pv Y15])]⟩
def jaj (N : Nat) (h : List Z0) (c : List Z3) : Z7 :=
 (bif decide ((6 : Int) < (h.length : Int)) then some false else oB (jb2 N h) fun v => bif !v then some false else bif decide ((4 : Int) < (c.length : Int)) then some false else iter (fun B (q, n, e, w, u) => bif decide (e < n) then oB (idx q e) fun a => (oB (jm N (a.1.length : Int) 1 3) fun y => bif !y then some false else oB (jO N a.2) fun l => bif !l then some false else oB (jaB N a.2) fun o => bif !decide (o = a.2) then some false else iter (fun C (p, k, j, A, x, m, t, b, f, r) => bif decide (b < t) then oB (idx m b) fun d => (oB (jO N d) fun D => bif !D then some false else oB (jaB N d) fun z => bif !decide (z = d) then some false else oB (jao N f d) fun E => bif E then some false else if fits (b + 1) then C (p, k, j, A, x, m, t, (b + 1), f, r) else none) else if fits (j + 1) then B (p, k, (j + 1), f, r) else none) N (q, n, e, (!l), (!decide (o = a.2)), a.1, (a.1.length : Int), (0 : Int), w, u)) else some true) N (c, (c.length : Int), (0 : Int), h, c))
theorem jdX (N : Nat) : mK 29 ⟨⟨[.agg [.pv (.sl .str), .pv Y15]], []⟩, ⟨[pB], []⟩, c2A (jaj N)⟩ :=
 mO (fC (jtw N) (fC (jY N) (fC (jcM N) (fC (jio N) (fC (jh5 N) ja))))) Tryz.func29 rfl N (.seq .no (.seq .no (.seq (.seq .no (.block (.loop jmj (.seq .no (.seq .no (.seq (.block (.seq .no (.seq .no (.seq .no (.block (.loop jrC .no)))))) .no)))))) .no))) _
def jtd : Sh := ⟨pS :: dz 4 (pI :: pI :: dz 16 []), []⟩
def jaF (N : Nat) (c : List UInt8) : Z7 :=
 (iter (fun f (b, d, a) => bif decide (a < d) then oB (idx b a) fun e => (bif decide ((e.toNat : Int) < 32) then some false else oB (idx b a) fun i => bif decide ((126 : Int) < (i.toNat : Int)) then some false else if fits (a + 1) then f (b, d, (a + 1)) else none) else some (decide ((b.length : Int) ≤ 160))) N (c, (c.length : Int), (0 : Int)))
theorem jdK (N : Nat) : mK 94 ⟨⟨[pS], []⟩, ⟨[pB], []⟩, c1A (jaF N)⟩ :=
 mO ja Tryz.func94 rfl N (.seq .no (.seq (.seq .no (.block (.loop jtd .no))) .no)) _
def jlC : Sh := ⟨.dead :: .box 1 0 :: dz 22 (.pv Y18 :: pI :: pI :: dz 66 []), [(1, false, [pI, .pv Y18, .pv Y14])]⟩
def jpt : Sh := ⟨.dead :: .box 1 0 :: dz 57 (.pv Y14 :: pI :: pI :: dz 31 []), [(1, false, [pI, .pv Y18, .pv Y14])]⟩
def jbx (N : Nat) (t : Int) (d : Z10) (q : Z6) : Z7 :=
 (oB (jm N t 1 9999) fun x => bif !x then some false else bif decide ((3 : Int) < (d.length : Int)) then some false else bif decide ((3 : Int) < (q.length : Int)) then some false else iter (fun p (l, j, b, k, e, c) => bif decide (b < j) then oB (idx l b) fun i => (oB (jO N i.1) fun y => bif !y then some false else oB (jaF N i.2) fun w => bif !w then some false else bif decide ((0 : Int) < b) then if fits (b - 1) then oB (idx e (b - 1)) fun C => (bif !Op.bytesLess C.1 i.1 then some false else if fits (b + 1) then p (l, j, (b + 1), k, e, c) else none) else none else if fits (b + 1) then p (l, j, (b + 1), k, e, c) else none) else iter (fun r (m, f, a, u, v, n) => bif decide (a < f) then oB (idx m a) fun h => (oB (jO N h.1) fun z => bif !z then some false else oB (jm N h.2 0 999999999) fun A => bif !A then some false else bif decide ((0 : Int) < a) then if fits (a - 1) then oB (idx n (a - 1)) fun B => (bif !Op.bytesLess B.1 h.1 then some false else if fits (a + 1) then r (m, f, (a + 1), u, v, n) else none) else none else if fits (a + 1) then r (m, f, (a + 1), u, v, n) else none) else some true) N (c, (c.length : Int), (0 : Int), k, e, c)) N (d, (d.length : Int), (0 : Int), t, d, q))
theorem jh0 (N : Nat) : mK 30 ⟨⟨[.agg [pI, .pv Y18, .pv Y14]], []⟩, ⟨[pB], []⟩, c3A (jbx N)⟩ :=
 mO (fC (jY N) (fC (jcM N) (fC (jdK N) ja))) Tryz.func30 rfl N (.seq .no (.seq .no (.seq (.seq .no (.block (.loop jlC .no))) (.seq (.seq .no (.block (.loop jpt .no))) .no)))) _
def jpj : Sh := ⟨.pv Y2 :: dz 4 (.pv Y2 :: pI :: pI :: dz 26 []), []⟩
def jbf (N : Nat) (e : List Z2) : Z7 :=
 (iter (fun h (b, f, d, a) => bif decide (a < d) then oB (idx f a) fun c => (oB (jbx N c.1 c.2.1 c.2.2) fun i => bif !i then some false else bif decide ((0 : Int) < a) then if fits (a - 1) then oB (idx b (a - 1)) fun k => (bif decide (c.1 ≤ k.1) then some false else if fits (a + 1) then h (b, f, d, (a + 1)) else none) else none else if fits (a + 1) then h (b, f, d, (a + 1)) else none) else some (decide ((b.length : Int) ≤ 16))) N (e, e, (e.length : Int), (0 : Int)))
theorem jjU (N : Nat) : mK 95 ⟨⟨[.pv Y2], []⟩, ⟨[pB], []⟩, c1A (jbf N)⟩ :=
 mO (fC (jh0 N) ja) Tryz.func95 rfl N (.seq .no (.seq (.seq .no (.block (.loop jpj .no))) .no)) _
def jbO (N : Nat) (c : Int) (a : Z10) (b : Z6) : Option Z2 :=
 (if room ([] : Z10).length a.length 32 then if room ([] : Z6).length b.length 24 then some (c, (([] : Z10) ++ a), (([] : Z6) ++ b)) else none else none)
theorem jrI (N : Nat) : mK 170 ⟨⟨[.agg [pI, .pv Y18, .pv Y14]], []⟩, ⟨[.agg [pI, .own 1 Y19 143 true, .own 2 Y16 145 true]], []⟩, c3A (jbO N)⟩ :=
 mO ja Tryz.func170 rfl N .no _
def joW : Sh := ⟨dz 3 (.own 600003 Y3 44 true :: dz 3 (.pv Y2 :: pI :: pI :: dz 10 [])), []⟩
def jbV (N : Nat) (f : List Z2) : Option ((List Z2)) :=
 (iter (fun i (b, d, h, a) => bif decide (a < h) then oB (idx d a) fun c => (oB (jbO N c.1 c.2.1 c.2.2) fun e => if room b.length ([e] : List Z2).length 56 then if fits (a + 1) then i ((b ++ ([e] : List Z2)), d, h, (a + 1)) else none else none) else some b) N (([] : List Z2), f, (f.length : Int), (0 : Int)))
theorem joC (N : Nat) : mK 96 ⟨⟨[.pv Y2], []⟩, ⟨[.own 1 Y3 44 true], []⟩, c1A (jbV N)⟩ :=
 mO (fC (jrI N) ja) Tryz.func96 rfl N (.seq .no (.seq .no (.seq (.seq .no (.block (.loop joW .no))) .no))) _
def jI (N : Nat) (a : Int) : Z12 :=
 (bif decide ((65 : Int) ≤ a) then bif decide (a ≤ 90) then some (IntKind.u8.wrap ((IntKind.u8.wrap (a + 97)) - 65)) else (some a) else some a)
theorem jmu (N : Nat) : mK 234 ⟨⟨[.pv (.int .u8)], []⟩, ⟨[.pv (.int .u8)], []⟩, c1A (jI N)⟩ :=
 mO ja Tryz.func234 rfl N .no _
def jpB : Sh := ⟨pS :: .dead :: .dead :: .own 600003 Y6 231 true :: pI :: dz 57 [], []⟩
def jo6 : Sh := ⟨pS :: .dead :: .dead :: .own 600003 Y6 231 true :: pI :: .box 5 0 :: .own 600006 (.int .u8) 5 true :: dz 55 [], [(5, false, [pS, pI, pI, pI])]⟩
def jct (N : Nat) (o : List UInt8) : Option ((List Z8)) :=
 (oB (jaF N o) fun t => bif !t then some ([] : List Z8) else iter (fun k (i, j, h) => bif decide (h < (i.length : Int)) then oB (idx i h) fun w => (oB (jI N (w.toNat : Int)) fun v => oB (jaw N v) fun r => bif !r then if fits (h + 1) then k (i, j, (h + 1)) else none else iter (fun q (c, f, a, b, m, d, e, p) => bif decide (a < (c.length : Int)) then oB (idx c a) fun z => (oB (jI N (z.toNat : Int)) fun x => oB (jaw N x) fun y => bif y then bif decide ((b.length : Int) < 12) then oB (idx c a) fun u => (oB (jI N (u.toNat : Int)) fun n => if room b.length ([n] : List Int).length 1 then if fits (a + 1) then q (c, f, (a + 1), (b ++ ([n] : List Int)), m, d, e, p) else none else none) else (if fits (a + 1) then q (c, f, (a + 1), b, m, d, e, p) else none) else if room f.length ([((bytesOf b), d, e, a)] : List Z8).length 40 then k (c, (f ++ ([((bytesOf b), d, e, a)] : List Z8)), a) else none) else if room f.length ([((bytesOf b), d, e, a)] : List Z8).length 40 then k (c, (f ++ ([((bytesOf b), d, e, a)] : List Z8)), a) else none) N (i, j, h, ([] : List Int), ([] : List UInt8), (j.length : Int), h, (0 : Int))) else some j) N (o, ([] : List Z8), (0 : Int)))
theorem jqc (N : Nat) : mK 171 ⟨⟨[pS], []⟩, ⟨[.own 1 Y6 231 true], []⟩, c1A (jct N)⟩ :=
 mO (fC (jdK N) (fC (jmu N) (fC (jeK N) ja))) Tryz.func171 rfl N (.seq .no (.seq .no (.seq .no (.seq (.seq .no (.block (.loop jpB (.seq .no (.block (.seq .no (.seq .no (.seq .no (.seq (.block (.loop jo6 .no)) .no))))))))) .no)))) _
def jty : Sh := ⟨.dead :: .pv Y14 :: pI :: .box 3 0 :: dz 3 (.pv (.opt Y17) :: dz 8 (pI :: pI :: dz 73 [])), [(3, false, [.pv (.sl .str), .pv Y15])]⟩
def jss : Sh := ⟨.dead :: .pv Y14 :: pI :: .box 3 0 :: dz 3 (.pv (.opt Y17) :: .dead :: .ptr Y17 :: pB :: dz 5 (pI :: pI :: dz 31 (pB :: dz 4 (.pv (.sl .str) :: pI :: pI :: dz 34 [])))), [(3, false, [.pv (.sl .str), .pv Y15])]⟩
def jbH (N : Nat) (c : List Z0) (c2 : List Z3) (terms : Z6) (at0 : Int) : Option ((Option Z3)) :=
 (iter (fun go (terms2, at02, best, t16, t17, c3, c4) => bif decide (t17 < t16) then oB (idx c4 t17) fun e => (if fits ((terms2.length : Int) - at02) then bif decide (((terms2.length : Int) - at02) < (e.1.length : Int)) then if fits (t17 + 1) then go (terms2, at02, best, t16, (t17 + 1), c3, c4) else none else (bif !(Option.isNone best) then oB best fun p => (bif decide ((e.1.length : Int) ≤ (p.1.length : Int)) then if fits (t17 + 1) then go (terms2, at02, best, t16, (t17 + 1), c3, c4) else none else iter (fun go2 (terms3, at03, best2, r, fits0, t162, t172, t49, t54, t55, t56, c5, c6) => bif decide (t56 < t55) then oB (idx t54 t56) fun e2 => (if fits (at03 + t56) then oB (idx terms3 (at03 + t56)) fun e3 => (bif fits0 then bif decide (e3.1 = e2) then oB (idx terms3 at03) fun e4 => (if fits (e4.2 + t56) then if fits (t56 + 1) then go2 (terms3, at03, best2, r, (decide (e3.2 = (e4.2 + t56))), t162, t172, t49, t54, t55, (t56 + 1), c5, c6) else none else none) else (if fits (t56 + 1) then go2 (terms3, at03, best2, r, false, t162, t172, t49, t54, t55, (t56 + 1), c5, c6) else none) else if fits (t56 + 1) then go2 (terms3, at03, best2, r, false, t162, t172, t49, t54, t55, (t56 + 1), c5, c6) else none) else none) else bif fits0 then if fits (t172 + 1) then go (terms3, at03, (some r), t162, (t172 + 1), c5, c6) else none else if fits (t172 + 1) then go (terms3, at03, best2, t162, (t172 + 1), c5, c6) else none) N (terms2, at02, best, e, true, t16, t17, (decide ((e.1.length : Int) ≤ (p.1.length : Int))), e.1, (e.1.length : Int), (0 : Int), c3, c4)) else iter (fun go3 (terms4, at04, best3, r2, fits02, t163, t173, t492, t542, t552, t562, c7, c8) => bif decide (t562 < t552) then oB (idx t542 t562) fun e5 => (if fits (at04 + t562) then oB (idx terms4 (at04 + t562)) fun e6 => (bif fits02 then bif decide (e6.1 = e5) then oB (idx terms4 at04) fun e7 => (if fits (e7.2 + t562) then if fits (t562 + 1) then go3 (terms4, at04, best3, r2, (decide (e6.2 = (e7.2 + t562))), t163, t173, t492, t542, t552, (t562 + 1), c7, c8) else none else none) else (if fits (t562 + 1) then go3 (terms4, at04, best3, r2, false, t163, t173, t492, t542, t552, (t562 + 1), c7, c8) else none) else if fits (t562 + 1) then go3 (terms4, at04, best3, r2, false, t163, t173, t492, t542, t552, (t562 + 1), c7, c8) else none) else none) else bif fits02 then if fits (t173 + 1) then go (terms4, at04, (some r2), t163, (t173 + 1), c7, c8) else none else if fits (t173 + 1) then go (terms4, at04, best3, t163, (t173 + 1), c7, c8) else none) N (terms2, at02, best, e, true, t16, t17, false, e.1, (e.1.length : Int), (0 : Int), c3, c4)) else none) else some best) N (terms, at0, (none : Option Z3), (c2.length : Int), (0 : Int), c, c2))
theorem jtv (N : Nat) : mK 172 ⟨⟨[.agg [.pv (.sl .str), .pv Y15], .pv Y14, pI], []⟩, ⟨[.pv (.opt Y17)], []⟩, c4A (jbH N)⟩ :=
 mO ja Tryz.func172 rfl N (.seq .no (.seq .no (.seq (.seq .no (.block (.loop jty (.seq .no (.seq .no (.seq (.block (.seq .no (.seq .no (.seq .no (.seq .no (.seq (.seq .no (.block (.loop jss .no))) .no)))))) .no)))))) .no))) _
def jlW : Sh := ⟨.dead :: .dead :: .box 2 0 :: .dead :: .dead :: .own 600005 Y16 151 true :: .own 600006 Y16 151 true :: dz 17 (.own 600024 Y6 231 true :: pI :: pI :: dz 67 []), [(2, false, [.pv (.sl .str), .pv Y15])]⟩
def jnt : Sh := ⟨.dead :: .dead :: .box 2 0 :: .dead :: .dead :: .own 600005 Y16 151 true :: .own 600006 Y16 151 true :: dz 3 (pI :: dz 83 []), [(2, false, [.pv (.sl .str), .pv Y15])]⟩
def jbw (N : Nat) (w : List Z0) (A : List Z3) (v : List UInt8) : Option (Z5) :=
 (oB (jaj N w A) fun C => bif !C then some ([] : Z6) else oB (jaF N v) fun D => bif !D then some ([] : Z6) else oB (jct N v) fun t => iter (fun n (k, e, l, j, a, c, h) => bif decide (a < j) then oB (idx l a) fun i => (oB (jaB N i.1) fun o => oB (jao N c i.1) fun G => bif !G then oB (jao N c o) fun E => (bif !E then if room e.length ([(o, i.2.1)] : Z6).length 24 then if fits (a + 1) then n (k, (e ++ ([(o, i.2.1)] : Z6)), l, j, (a + 1), c, h) else none else none else if fits (a + 1) then n (k, e, l, j, (a + 1), c, h) else none) else if fits (a + 1) then n (k, e, l, j, (a + 1), c, h) else none) else iter (fun y (f, d, b, m, p) => bif decide (b < (d.length : Int)) then oB (jbH N m p d b) fun r => (bif Option.isNone r then oB (idx d b) fun B => (if room f.length ([B] : Z6).length 24 then if fits (b + 1) then y ((f ++ ([B] : Z6)), d, (b + 1), m, p) else none else none) else oB r fun x => oB (idx d b) fun u => if room f.length ([(x.2, u.2)] : Z6).length 24 then oB r fun z => (if fits (b + (z.1.length : Int)) then y ((f ++ ([(x.2, u.2)] : Z6)), d, (b + (z.1.length : Int)), m, p) else none) else none) else some f) N (k, e, (0 : Int), c, h)) N (([] : Z6), ([] : Z6), t, (t.length : Int), (0 : Int), w, A))
theorem jgO (N : Nat) : mK 97 ⟨⟨[.agg [.pv (.sl .str), .pv Y15], pS], []⟩, ⟨[.own 1 Y16 151 true], []⟩, c3A (jbw N)⟩ :=
 mO (fC (jdX N) (fC (jdK N) (fC (jqc N) (fC (jio N) (fC (jh5 N) (fC (jtv N) ja)))))) Tryz.func97 rfl N (.seq .no (.seq .no (.seq .no (.seq .no (.seq (.seq .no (.block (.loop jlW .no))) (.seq (.seq .no (.block (.loop jnt .no))) .no)))))) _
def k__loop_example_fossick_impl_Seg_put_1_m (N : Nat) (c : List UInt8) (d : List UInt8) (e : Z4) (b : List UInt8) (a : Z0 × Int) : Z7 :=
 (bif decide (c = b) then some (decide (d = a.1)) else some false)
theorem jmw (N : Nat) : mK 174 ⟨⟨[.agg [pS, pS, .pv Y11], .ptr .str, .ptr Y16], []⟩, ⟨[pB], []⟩, c5A (k__loop_example_fossick_impl_Seg_put_1_m N)⟩ :=
 mO ja Tryz.func174 rfl N .no _
def jnc : Sh := ⟨.pv Y4 :: .clo 174 [.ptr .str, .ptr Y16] :: dz 5 (pI :: pI :: dz 10 []), []⟩
def k_slices_IndexFunc_146_m (N : Nat) (e : List Z1) (h : Z0 × Z0 × Int) : Z12 :=
 (iter (fun i (f, b, d, a) => bif decide (a < d) then oB (idx f a) fun c => (oB (k__loop_example_fossick_impl_Seg_put_1_m N c.1 c.2.1 c.2.2 b.1 b.2) fun j => bif j then some a else if fits (a + 1) then i (f, b, d, (a + 1)) else none) else some (-1)) N (e, h, (e.length : Int), (0 : Int)))
theorem jrl (N : Nat) : mK 173 ⟨⟨[.pv Y4, .clo 174 [.ptr .str, .ptr Y16]], []⟩, ⟨[pI], []⟩, c2A (k_slices_IndexFunc_146_m N)⟩ :=
 mO (fC (jmw N) ja) Tryz.func173 rfl N (.seq .no (.seq (.seq .no (.block (.loop jnc .no))) .no)) _
def i_Seg_put_m (N : Nat) (h : List UInt8) (f : List UInt8) (i : Int) (e : Int) (n : List Z2) (a : List Z1) : Option ((List Z2) × (List Z1)) :=
 (oB (k_slices_IndexFunc_146_m N a (h, f, i)) fun d => bif decide (d < 0) then if room a.length ([(h, f, ([] : Z4))] : List Z1).length 56 then if 0 ≤ (a.length : Int) ∧ (a.length : Int) < ((a ++ ([(h, f, ([] : Z4))] : List Z1)).length : Int) then oB ((a ++ ([(h, f, ([] : Z4))] : List Z1))[(a.length : Int).toNat]?) fun b => (if fits ((b.2.2.length : Int) - 1) then bif decide (((b.2.2.length : Int) - 1) < 0) then oB ((a ++ ([(h, f, ([] : Z4))] : List Z1))[(a.length : Int).toNat]?) fun aq => (if (a.length : Int).toNat = (a.length : Int).toNat then if room b.2.2.length ([(e, ([] : List Int))] : Z4).length 32 then if (a.length : Int).toNat = (a.length : Int).toNat then oB ((a ++ ([(h, f, ([] : Z4))] : List Z1))[(a.length : Int).toNat]?) fun m => (if fits (((b.2.2.length : Int) - 1) + 1) then oB (((a ++ ([(h, f, ([] : Z4))] : List Z1)).set (a.length : Int).toNat (m.1, m.2.1, (b.2.2 ++ ([(e, ([] : List Int))] : Z4))))[(a.length : Int).toNat]?) fun r => (oB (r.2.2[(((b.2.2.length : Int) - 1) + 1).toNat]?) fun u => oB (((a ++ ([(h, f, ([] : Z4))] : List Z1)).set (a.length : Int).toNat (m.1, m.2.1, (b.2.2 ++ ([(e, ([] : List Int))] : Z4))))[(a.length : Int).toNat]?) fun aa => if (a.length : Int).toNat = (a.length : Int).toNat then oB (((a ++ ([(h, f, ([] : Z4))] : List Z1)).set (a.length : Int).toNat (m.1, m.2.1, (b.2.2 ++ ([(e, ([] : List Int))] : Z4))))[(a.length : Int).toNat]?) fun U => (if (a.length : Int).toNat = (a.length : Int).toNat then if 0 ≤ (((b.2.2.length : Int) - 1) + 1) ∧ (((b.2.2.length : Int) - 1) + 1) < (r.2.2.length : Int) then oB (r.2.2[(((b.2.2.length : Int) - 1) + 1).toNat]?) fun R => (if (((b.2.2.length : Int) - 1) + 1).toNat = (((b.2.2.length : Int) - 1) + 1).toNat then if room u.2.length ([i] : List Int).length 8 then if 0 ≤ (((b.2.2.length : Int) - 1) + 1) ∧ (((b.2.2.length : Int) - 1) + 1) < (r.2.2.length : Int) then if (((b.2.2.length : Int) - 1) + 1).toNat = (((b.2.2.length : Int) - 1) + 1).toNat then oB (r.2.2[(((b.2.2.length : Int) - 1) + 1).toNat]?) fun K => (some (n, (((a ++ ([(h, f, ([] : Z4))] : List Z1)).set (a.length : Int).toNat (m.1, m.2.1, (b.2.2 ++ ([(e, ([] : List Int))] : Z4)))).modify ((a.length : Int).toNat) fun D => (D.1, D.2.1, (r.2.2.set (((b.2.2.length : Int) - 1) + 1).toNat (K.1, (u.2 ++ ([i] : List Int)))))))) else none else none else none else none) else none else none) else none) else none) else none else none else none) else (oB ((a ++ ([(h, f, ([] : Z4))] : List Z1))[(a.length : Int).toNat]?) fun T => if (a.length : Int).toNat = (a.length : Int).toNat then if 0 ≤ ((b.2.2.length : Int) - 1) ∧ ((b.2.2.length : Int) - 1) < (b.2.2.length : Int) then oB (b.2.2[((b.2.2.length : Int) - 1).toNat]?) fun Q => (bif !decide (Q.1 = e) then oB ((a ++ ([(h, f, ([] : Z4))] : List Z1))[(a.length : Int).toNat]?) fun ad => (if (a.length : Int).toNat = (a.length : Int).toNat then if room b.2.2.length ([(e, ([] : List Int))] : Z4).length 32 then if (a.length : Int).toNat = (a.length : Int).toNat then oB ((a ++ ([(h, f, ([] : Z4))] : List Z1))[(a.length : Int).toNat]?) fun l => (if fits (((b.2.2.length : Int) - 1) + 1) then oB (((a ++ ([(h, f, ([] : Z4))] : List Z1)).set (a.length : Int).toNat (l.1, l.2.1, (b.2.2 ++ ([(e, ([] : List Int))] : Z4))))[(a.length : Int).toNat]?) fun p => (oB (p.2.2[(((b.2.2.length : Int) - 1) + 1).toNat]?) fun B => oB (((a ++ ([(h, f, ([] : Z4))] : List Z1)).set (a.length : Int).toNat (l.1, l.2.1, (b.2.2 ++ ([(e, ([] : List Int))] : Z4))))[(a.length : Int).toNat]?) fun ae => if (a.length : Int).toNat = (a.length : Int).toNat then oB (((a ++ ([(h, f, ([] : Z4))] : List Z1)).set (a.length : Int).toNat (l.1, l.2.1, (b.2.2 ++ ([(e, ([] : List Int))] : Z4))))[(a.length : Int).toNat]?) fun X => (if (a.length : Int).toNat = (a.length : Int).toNat then if 0 ≤ (((b.2.2.length : Int) - 1) + 1) ∧ (((b.2.2.length : Int) - 1) + 1) < (p.2.2.length : Int) then oB (p.2.2[(((b.2.2.length : Int) - 1) + 1).toNat]?) fun an => (if (((b.2.2.length : Int) - 1) + 1).toNat = (((b.2.2.length : Int) - 1) + 1).toNat then if room B.2.length ([i] : List Int).length 8 then if 0 ≤ (((b.2.2.length : Int) - 1) + 1) ∧ (((b.2.2.length : Int) - 1) + 1) < (p.2.2.length : Int) then if (((b.2.2.length : Int) - 1) + 1).toNat = (((b.2.2.length : Int) - 1) + 1).toNat then oB (p.2.2[(((b.2.2.length : Int) - 1) + 1).toNat]?) fun I => (some (n, (((a ++ ([(h, f, ([] : Z4))] : List Z1)).set (a.length : Int).toNat (l.1, l.2.1, (b.2.2 ++ ([(e, ([] : List Int))] : Z4)))).modify ((a.length : Int).toNat) fun w => (w.1, w.2.1, (p.2.2.set (((b.2.2.length : Int) - 1) + 1).toNat (I.1, (B.2 ++ ([i] : List Int)))))))) else none else none else none else none) else none else none) else none) else none) else none else none else none) else if (a.length : Int).toNat = (a.length : Int).toNat then oB (b.2.2[((b.2.2.length : Int) - 1).toNat]?) fun x => (oB ((a ++ ([(h, f, ([] : Z4))] : List Z1))[(a.length : Int).toNat]?) fun ag => if (a.length : Int).toNat = (a.length : Int).toNat then oB ((a ++ ([(h, f, ([] : Z4))] : List Z1))[(a.length : Int).toNat]?) fun S => (if (a.length : Int).toNat = (a.length : Int).toNat then if 0 ≤ ((b.2.2.length : Int) - 1) ∧ ((b.2.2.length : Int) - 1) < (b.2.2.length : Int) then oB (b.2.2[((b.2.2.length : Int) - 1).toNat]?) fun ah => (if ((b.2.2.length : Int) - 1).toNat = ((b.2.2.length : Int) - 1).toNat then if room x.2.length ([i] : List Int).length 8 then if 0 ≤ ((b.2.2.length : Int) - 1) ∧ ((b.2.2.length : Int) - 1) < (b.2.2.length : Int) then if ((b.2.2.length : Int) - 1).toNat = ((b.2.2.length : Int) - 1).toNat then oB (b.2.2[((b.2.2.length : Int) - 1).toNat]?) fun O => (some (n, ((a ++ ([(h, f, ([] : Z4))] : List Z1)).modify ((a.length : Int).toNat) fun y => (y.1, y.2.1, (b.2.2.set ((b.2.2.length : Int) - 1).toNat (O.1, (x.2 ++ ([i] : List Int)))))))) else none else none else none else none) else none else none) else none) else none) else none else none) else none) else none else none else if 0 ≤ d ∧ d < (a.length : Int) then oB (a[d.toNat]?) fun c => (if fits ((c.2.2.length : Int) - 1) then bif decide (((c.2.2.length : Int) - 1) < 0) then oB (a[d.toNat]?) fun ap => (if d.toNat = d.toNat then if room c.2.2.length ([(e, ([] : List Int))] : Z4).length 32 then if d.toNat = d.toNat then oB (a[d.toNat]?) fun k => (if fits (((c.2.2.length : Int) - 1) + 1) then oB ((a.set d.toNat (k.1, k.2.1, (c.2.2 ++ ([(e, ([] : List Int))] : Z4))))[d.toNat]?) fun q => (oB (q.2.2[(((c.2.2.length : Int) - 1) + 1).toNat]?) fun A => oB ((a.set d.toNat (k.1, k.2.1, (c.2.2 ++ ([(e, ([] : List Int))] : Z4))))[d.toNat]?) fun V => if d.toNat = d.toNat then oB ((a.set d.toNat (k.1, k.2.1, (c.2.2 ++ ([(e, ([] : List Int))] : Z4))))[d.toNat]?) fun ao => (if d.toNat = d.toNat then if 0 ≤ (((c.2.2.length : Int) - 1) + 1) ∧ (((c.2.2.length : Int) - 1) + 1) < (q.2.2.length : Int) then oB (q.2.2[(((c.2.2.length : Int) - 1) + 1).toNat]?) fun am => (if (((c.2.2.length : Int) - 1) + 1).toNat = (((c.2.2.length : Int) - 1) + 1).toNat then if room A.2.length ([i] : List Int).length 8 then if 0 ≤ (((c.2.2.length : Int) - 1) + 1) ∧ (((c.2.2.length : Int) - 1) + 1) < (q.2.2.length : Int) then if (((c.2.2.length : Int) - 1) + 1).toNat = (((c.2.2.length : Int) - 1) + 1).toNat then oB (q.2.2[(((c.2.2.length : Int) - 1) + 1).toNat]?) fun L => (some (n, ((a.set d.toNat (k.1, k.2.1, (c.2.2 ++ ([(e, ([] : List Int))] : Z4)))).modify d.toNat fun t => (t.1, t.2.1, (q.2.2.set (((c.2.2.length : Int) - 1) + 1).toNat (L.1, (A.2 ++ ([i] : List Int)))))))) else none else none else none else none) else none else none) else none) else none) else none else none else none) else (oB (a[d.toNat]?) fun ab => if d.toNat = d.toNat then if 0 ≤ ((c.2.2.length : Int) - 1) ∧ ((c.2.2.length : Int) - 1) < (c.2.2.length : Int) then oB (c.2.2[((c.2.2.length : Int) - 1).toNat]?) fun G => (bif !decide (G.1 = e) then oB (a[d.toNat]?) fun ai => (if d.toNat = d.toNat then if room c.2.2.length ([(e, ([] : List Int))] : Z4).length 32 then if d.toNat = d.toNat then oB (a[d.toNat]?) fun j => (if fits (((c.2.2.length : Int) - 1) + 1) then oB ((a.set d.toNat (j.1, j.2.1, (c.2.2 ++ ([(e, ([] : List Int))] : Z4))))[d.toNat]?) fun o => (oB (o.2.2[(((c.2.2.length : Int) - 1) + 1).toNat]?) fun v => oB ((a.set d.toNat (j.1, j.2.1, (c.2.2 ++ ([(e, ([] : List Int))] : Z4))))[d.toNat]?) fun ac => if d.toNat = d.toNat then oB ((a.set d.toNat (j.1, j.2.1, (c.2.2 ++ ([(e, ([] : List Int))] : Z4))))[d.toNat]?) fun af => (if d.toNat = d.toNat then if 0 ≤ (((c.2.2.length : Int) - 1) + 1) ∧ (((c.2.2.length : Int) - 1) + 1) < (o.2.2.length : Int) then oB (o.2.2[(((c.2.2.length : Int) - 1) + 1).toNat]?) fun ak => (if (((c.2.2.length : Int) - 1) + 1).toNat = (((c.2.2.length : Int) - 1) + 1).toNat then if room v.2.length ([i] : List Int).length 8 then if 0 ≤ (((c.2.2.length : Int) - 1) + 1) ∧ (((c.2.2.length : Int) - 1) + 1) < (o.2.2.length : Int) then if (((c.2.2.length : Int) - 1) + 1).toNat = (((c.2.2.length : Int) - 1) + 1).toNat then oB (o.2.2[(((c.2.2.length : Int) - 1) + 1).toNat]?) fun P => (some (n, ((a.set d.toNat (j.1, j.2.1, (c.2.2 ++ ([(e, ([] : List Int))] : Z4)))).modify d.toNat fun E => (E.1, E.2.1, (o.2.2.set (((c.2.2.length : Int) - 1) + 1).toNat (P.1, (v.2 ++ ([i] : List Int)))))))) else none else none else none else none) else none else none) else none) else none) else none else none else none) else if d.toNat = d.toNat then oB (c.2.2[((c.2.2.length : Int) - 1).toNat]?) fun C => (oB (a[d.toNat]?) fun W => if d.toNat = d.toNat then oB (a[d.toNat]?) fun al => (if d.toNat = d.toNat then if 0 ≤ ((c.2.2.length : Int) - 1) ∧ ((c.2.2.length : Int) - 1) < (c.2.2.length : Int) then oB (c.2.2[((c.2.2.length : Int) - 1).toNat]?) fun aj => (if ((c.2.2.length : Int) - 1).toNat = ((c.2.2.length : Int) - 1).toNat then if room C.2.length ([i] : List Int).length 8 then if 0 ≤ ((c.2.2.length : Int) - 1) ∧ ((c.2.2.length : Int) - 1) < (c.2.2.length : Int) then if ((c.2.2.length : Int) - 1).toNat = ((c.2.2.length : Int) - 1).toNat then oB (c.2.2[((c.2.2.length : Int) - 1).toNat]?) fun H => (some (n, (a.modify d.toNat fun z => (z.1, z.2.1, (c.2.2.set ((c.2.2.length : Int) - 1).toNat (H.1, (C.2 ++ ([i] : List Int)))))))) else none else none else none else none) else none else none) else none) else none) else none else none) else none) else none)
theorem jky (N : Nat) : mK 98 ⟨⟨[.box 900000 0, pS, .agg [pS, pI], pI], [(900000, false, [.pv Y2, .tre 850001 Y5 156])]⟩, ⟨[.tup []], [(900000, false, [.pv Y2, .tre 1 Y5 156])]⟩, c6A (i_Seg_put_m N)⟩ :=
 mO (fC (jrl N) ja) Tryz.func98 rfl N (.seq .no (.seq .no (.seq .no (.seq .no (.seq .no (.seq .no (.touch [.out 9 [(2, 79, 239, 10), (1, 88, 3, 0)]]))))))) _ (wr := [33, 34, 70, 71, 91, 92]) (rs := [900000, 850001]) (dw := [16, 33, 70])
def jl0 : Sh := ⟨.pv (.int .u64) :: .dead :: pI :: dz 22 [], []⟩
def k_math_bits_Len64_m (N : Nat) (f : Int) : Z12 :=
 (meet (fun (a : Int × Int) => match a with | (b, c) => meet (fun (a : Int × Int) => match a with | (d, e) => meet (fun (a : Int × Int) => match a with | (m, j) => oB (idx ([0, 1, 2, 2, 3, 3, 3, 3, 4, 4, 4, 4, 4, 4, 4, 4, 5, 5, 5, 5, 5, 5, 5, 5, 5, 5, 5, 5, 5, 5, 5, 5, 6, 6, 6, 6, 6, 6, 6, 6, 6, 6, 6, 6, 6, 6, 6, 6, 6, 6, 6, 6, 6, 6, 6, 6, 6, 6, 6, 6, 6, 6, 6, 6, 7, 7, 7, 7, 7, 7, 7, 7, 7, 7, 7, 7, 7, 7, 7, 7, 7, 7, 7, 7, 7, 7, 7, 7, 7, 7, 7, 7, 7, 7, 7, 7, 7, 7, 7, 7, 7, 7, 7, 7, 7, 7, 7, 7, 7, 7, 7, 7, 7, 7, 7, 7, 7, 7, 7, 7, 7, 7, 7, 7, 7, 7, 7, 7, 8, 8, 8, 8, 8, 8, 8, 8, 8, 8, 8, 8, 8, 8, 8, 8, 8, 8, 8, 8, 8, 8, 8, 8, 8, 8, 8, 8, 8, 8, 8, 8, 8, 8, 8, 8, 8, 8, 8, 8, 8, 8, 8, 8, 8, 8, 8, 8, 8, 8, 8, 8, 8, 8, 8, 8, 8, 8, 8, 8, 8, 8, 8, 8, 8, 8, 8, 8, 8, 8, 8, 8, 8, 8, 8, 8, 8, 8, 8, 8, 8, 8, 8, 8, 8, 8, 8, 8, 8, 8, 8, 8, 8, 8, 8, 8, 8, 8, 8, 8, 8, 8, 8, 8, 8, 8, 8, 8, 8, 8, 8, 8, 8, 8, 8, 8, 8, 8, 8, 8, 8, 8, 8, 8, 8, 8, 8, 8] : List UInt8) (IntKind.u8.wrap m)) fun i => if fits (j + (IntKind.i64.wrap (i.toNat : Int))) then some (j + (IntKind.i64.wrap (i.toNat : Int))) else none) fun l => bif decide ((256 : Int) ≤ d) then if 0 ≤ (8 : Int) then if fits (e + 8) then l ((d.fdiv (2 ^ (min (8 : Int).toNat (IntKind.bits .u64)))), (e + 8)) else none else none else l (d, e)) fun k => bif decide ((65536 : Int) ≤ b) then if 0 ≤ (16 : Int) then if fits (c + 16) then k ((b.fdiv (2 ^ (min (16 : Int).toNat (IntKind.bits .u64)))), (c + 16)) else none else none else k (b, c)) fun h => bif decide ((4294967296 : Int) ≤ f) then if 0 ≤ (32 : Int) then h ((f.fdiv (2 ^ (min (32 : Int).toNat (IntKind.bits .u64)))), 32) else none else h (f, 0))
theorem jrK (N : Nat) : mK 244 ⟨⟨[.pv (.int .u64)], []⟩, ⟨[pI], []⟩, c1A (k_math_bits_Len64_m N)⟩ :=
 mO ja Tryz.func244 rfl N (.seq .no (.meet jl0 .no (.meet jl0 .no (.meet jl0 .no .no)))) _
def k_math_bits_Len_m (N : Nat) (b : Int) : Z12 :=
 (oB (k_math_bits_Len64_m N b) fun a => some a)
theorem jda (N : Nat) : mK 176 ⟨⟨[.pv (.int .u64)], []⟩, ⟨[pI], []⟩, c1A (k_math_bits_Len_m N)⟩ :=
 mO (fC (jrK N) ja) Tryz.func176 rfl N .no _
def jbn (N : Nat) (a : List UInt8) : Z7 :=
 (some (!decide (a = a)))
theorem jkt (N : Nat) : mK 177 ⟨⟨[pS], []⟩, ⟨[pB], []⟩, c1A (jbn N)⟩ :=
 mO ja Tryz.func177 rfl N .no _
def jam (N : Nat) (b : List UInt8) (a : List UInt8) : Z12 :=
 (oB (jbn N b) fun d => oB (jbn N a) fun c => bif d then bif c then some 0 else (some (-1)) else bif c then some 1 else bif Op.bytesLess b a then some (-1) else bif !(Op.bytesLess b a || decide (b = a)) then some 1 else some 0)
theorem ji2 (N : Nat) : mK 102 ⟨⟨[pS, pS], []⟩, ⟨[pI], []⟩, c2A (jam N)⟩ :=
 mO (fC (jkt N) ja) Tryz.func102 rfl N .no _
end Go.Proofs.YtfgcmhhacfkhcaaGreatDoor
