/- Plain laws: the laws' own functions over string, int, Syn, Conf, Field, Attr, Doc, Post, Entry, Seg, Hit. -/
import Derived.Test.YtcjbjmbialienaaGreatDoorQ1
import Derived.Test.YtcjbjmbialienaaGreatDoorG1
set_option linter.unusedVariables false
set_option linter.unusedSimpArgs false
namespace Go.Proofs.YtcjbjmbialienaaGreatDoor
open Go.RowKit
theorem eqStringS_spec (N : Nat) (hM : Sm < N) (hN : N ≤ 1099511627776) (a b : List (List UInt8)) (h : okD Sm (.sl .str) a) : jaa N a b = some (decide (a = b)) :=
 jW (fun (e e2 : List UInt8) => some (decide (e = e2))) N a b (Nat.lt_of_le_of_lt h.1 hM) hN fun x hx y => rfl
theorem jfC (N : Nat) (hM : Sm < N) (hN : N ≤ 1099511627776) (a : List (List UInt8)) (h : okD Sm (.sl .str) a) : jcG N a = some a :=
 jS (fun (e : List UInt8) => some e) ([] : List UInt8) 16 N a (Nat.lt_of_le_of_lt h.1 hM) hN (by have : List.length a ≤ 1048576 := h.1; omega) fun x hx => rfl
theorem jgn (N : Nat) (hM : Sm < N) (a : List (List UInt8)) (left : Int) (h0 : 0 ≤ left) (h1 : left ≤ 1048576) (ha : okD BigN (.sl .str) a) : SzP (tot (.sl .str) a) left (jcy N a left) (okD Sm (.sl .str) a) :=
 jps N hM a left ha.1 h0 h1 fun x hx => ha.2 x hx
theorem jr9 (N : Nat) (hM : Sm < N) (hN : N ≤ 1099511627776) (a b : List (Int)) (h : okD Sm (.sl (.int .i64)) a) : jej N a b = some (decide (a = b)) :=
 jW (fun (e e2 : Int) => some (decide (e = e2))) N a b (Nat.lt_of_le_of_lt h.1 hM) hN fun x hx y => rfl
theorem jsG (N : Nat) (hM : Sm < N) (hN : N ≤ 1099511627776) (a : List (Int)) (h : okD Sm (.sl (.int .i64)) a) : jcU N a = some a :=
 jS (fun (e : Int) => some e) 0 8 N a (Nat.lt_of_le_of_lt h.1 hM) hN (by have : List.length a ≤ 1048576 := h.1; omega) fun x hx => rfl
theorem jlL (N : Nat) (hM : Sm < N) (a : List (Int)) (left : Int) (h0 : 0 ≤ left) (h1 : left ≤ 1048576) (ha : okD BigN (.sl (.int .i64)) a) : SzP (tot (.sl (.int .i64)) a) left (jdl N a left) (okD Sm (.sl (.int .i64)) a) :=
 (SzP.len ha.1 h0 h1 (fun a b => SzP.ret a) fun h _ => ⟨h, ha.2⟩).imp (by rw [show tot (.sl (.int .i64)) a = mcnt (tot (.int .i64)) a + List.length a from rfl, jg5 (tot (.int .i64)) (fun _ => rfl)]; exact Nat.le_refl _) id
abbrev TSyn : Tp := .pair (.sl .str) .str
abbrev ESyn : Type := (List (List UInt8)) × (List UInt8)
instance decSyn : DecidableEq (ESyn) := inferInstance
theorem jso (N : Nat) (hM : Sm < N) (hN : N ≤ 1099511627776) (x y : ESyn) (h : okD Sm TSyn x) : jbh N x.1 x.2 y.1 y.2 = some (decide (x = y)) := by
 obtain ⟨x0, x1⟩ := x
 obtain ⟨y0, y1⟩ := y
 unfold jbh
 rw [eqStringS_spec N hM hN x0 y0 h.1, Option.bind_some]
 clear h
 by_cases h0 : x0 = y0 <;> by_cases h1 : x1 = y1 <;> simp [h0, h1]
theorem jk3 (N : Nat) (hM : Sm < N) (hN : N ≤ 1099511627776) (x : ESyn) (h : okD Sm TSyn x) : jby N x.1 x.2 = some x := by
 unfold jby
 rw [jfC N hM hN x.1 h.1, Option.bind_some]
theorem jlR (N : Nat) (hM : Sm < N) (x : ESyn) (left : Int) (h0 : 0 ≤ left) (h1 : left ≤ 1048576) (ha : okD BigN TSyn x) : SzP (tot TSyn x) left (ja6 N x.1 x.2 left) (okD Sm TSyn x) := by
 unfold ja6
 exact (SzP.then2 h1 (jgn N hM x.1 _ h0 h1 ha.1) (fun _ r0 s0 => SzP.len2 (ha.2) r0 s0 (fun r1 s1 => SzP.ret r1))).imp (by simp only [tot]; omega) fun q => ⟨q.1, q.2.1⟩
theorem jnL (N : Nat) (hM : Sm < N) (hN : N ≤ 1099511627776) (a b : List (ESyn)) (h : okD Sm (.sl TSyn) a) : jdy N a b = some (decide (a = b)) :=
 jW (fun (e e2 : ESyn) => jbh N e.1 e.2 e2.1 e2.2) N a b (Nat.lt_of_le_of_lt h.1 hM) hN fun x hx y => jso N hM hN x y (h.2 x hx)
theorem jqu (N : Nat) (hM : Sm < N) (hN : N ≤ 1099511627776) (a : List (ESyn)) (h : okD Sm (.sl TSyn) a) : jdk N a = some a :=
 jS (fun (e : ESyn) => jby N e.1 e.2) (([] : List (List UInt8)), ([] : List UInt8)) 40 N a (Nat.lt_of_le_of_lt h.1 hM) hN (by have : List.length a ≤ 1048576 := h.1; omega) fun x hx => jk3 N hM hN x (h.2 x hx)
theorem jtm (N : Nat) (hM : Sm < N) (a : List (ESyn)) (left : Int) (h0 : 0 ≤ left) (h1 : left ≤ 1048576) (ha : okD BigN (.sl TSyn) a) : SzP (tot (.sl TSyn) a) left (jds N a left) (okD Sm (.sl TSyn) a) :=
 jaB (fun (e : ESyn) l => ja6 N e.1 e.2 l) N hM (okD Sm TSyn) (tot TSyn) a left ha.1 h0 h1 fun x hx l hl0 hl1 => jlR N hM x l hl0 hl1 (ha.2 x hx)
abbrev TConf : Tp := .pair (.sl .str) (.sl TSyn)
abbrev EConf : Type := (List (List UInt8)) × (List (ESyn))
instance decConf : DecidableEq (EConf) := inferInstance
theorem eqConf_spec (N : Nat) (hM : Sm < N) (hN : N ≤ 1099511627776) (x y : EConf) (h : okD Sm TConf x) : jch N x.1 x.2 y.1 y.2 = some (decide (x = y)) := by
 obtain ⟨x0, x1⟩ := x
 obtain ⟨y0, y1⟩ := y
 unfold jch
 rw [eqStringS_spec N hM hN x0 y0 h.1, Option.bind_some]
 rw [jnL N hM hN x1 y1 h.2, Option.bind_some]
 clear h
 by_cases h0 : x0 = y0 <;> by_cases h1 : x1 = y1 <;> simp [h0, h1]
theorem toConf_spec (N : Nat) (hM : Sm < N) (hN : N ≤ 1099511627776) (x : EConf) (h : okD Sm TConf x) : jad N x.1 x.2 = some x := by
 unfold jad
 rw [jfC N hM hN x.1 h.1, Option.bind_some, jqu N hM hN x.2 h.2, Option.bind_some]
theorem szConf_spec (N : Nat) (hM : Sm < N) (x : EConf) (left : Int) (h0 : 0 ≤ left) (h1 : left ≤ 1048576) (ha : okD BigN TConf x) : SzP (tot TConf x) left (jcJ N x.1 x.2 left) (okD Sm TConf x) := by
 unfold jcJ
 exact (SzP.then2 h1 (jgn N hM x.1 _ h0 h1 ha.1) (fun _ r0 s0 => SzP.then2 s0 (jtm N hM x.2 _ r0 s0 ha.2) (fun _ r1 s1 => SzP.ret r1))).imp (by simp only [tot]; omega) fun q => ⟨q.1, q.2.1⟩
abbrev jl : Tp := .pair .str .str
abbrev EField : Type := (List UInt8) × (List UInt8)
instance decField : DecidableEq (EField) := inferInstance
theorem jl0 (N : Nat) (hM : Sm < N) (hN : N ≤ 1099511627776) (x y : EField) (h : okD Sm jl x) : jbl N x.1 x.2 y.1 y.2 = some (decide (x = y)) := by
 obtain ⟨x0, x1⟩ := x
 obtain ⟨y0, y1⟩ := y
 unfold jbl
 clear h
 by_cases h0 : x0 = y0 <;> by_cases h1 : x1 = y1 <;> simp [h0, h1]
theorem jqA (N : Nat) (hM : Sm < N) (hN : N ≤ 1099511627776) (x : EField) (h : okD Sm jl x) : ja0 N x.1 x.2 = some x := by
 unfold ja0
 rfl
theorem jqU (N : Nat) (hM : Sm < N) (x : EField) (left : Int) (h0 : 0 ≤ left) (h1 : left ≤ 1048576) (ha : okD BigN jl x) : SzP (tot jl x) left (jbp N x.1 x.2 left) (okD Sm jl x) := by
 unfold jbp
 exact (SzP.len2 (ha.1) h0 h1 (fun r0 s0 => SzP.len2 (ha.2) r0 s0 (fun r1 s1 => SzP.ret r1))).imp (by simp only [tot]; omega) fun q => ⟨q.1, q.2.1⟩
theorem jpc (N : Nat) (hM : Sm < N) (hN : N ≤ 1099511627776) (a b : List (EField)) (h : okD Sm (.sl jl) a) : jeh N a b = some (decide (a = b)) :=
 jW (fun (e e2 : EField) => jbl N e.1 e.2 e2.1 e2.2) N a b (Nat.lt_of_le_of_lt h.1 hM) hN fun x hx y => jl0 N hM hN x y (h.2 x hx)
theorem jtL (N : Nat) (hM : Sm < N) (hN : N ≤ 1099511627776) (a : List (EField)) (h : okD Sm (.sl jl) a) : jdJ N a = some a :=
 jS (fun (e : EField) => ja0 N e.1 e.2) (([] : List UInt8), ([] : List UInt8)) 32 N a (Nat.lt_of_le_of_lt h.1 hM) hN (by have : List.length a ≤ 1048576 := h.1; omega) fun x hx => jqA N hM hN x (h.2 x hx)
theorem jlT (N : Nat) (hM : Sm < N) (a : List (EField)) (left : Int) (h0 : 0 ≤ left) (h1 : left ≤ 1048576) (ha : okD BigN (.sl jl) a) : SzP (tot (.sl jl) a) left (jdc N a left) (okD Sm (.sl jl) a) :=
 jaB (fun (e : EField) l => jbp N e.1 e.2 l) N hM (okD Sm jl) (tot jl) a left ha.1 h0 h1 fun x hx l hl0 hl1 => jqU N hM x l hl0 hl1 (ha.2 x hx)
abbrev ji : Tp := .pair .str (.int .i64)
abbrev EAttr : Type := (List UInt8) × Int
instance decAttr : DecidableEq (EAttr) := inferInstance
theorem jqZ (N : Nat) (hM : Sm < N) (hN : N ≤ 1099511627776) (x y : EAttr) (h : okD Sm ji x) : jaS N x.1 x.2 y.1 y.2 = some (decide (x = y)) := by
 obtain ⟨x0, x1⟩ := x
 obtain ⟨y0, y1⟩ := y
 unfold jaS
 clear h
 by_cases h0 : x0 = y0 <;> by_cases h1 : x1 = y1 <;> simp [h0, h1]
theorem jnq (N : Nat) (hM : Sm < N) (hN : N ≤ 1099511627776) (x : EAttr) (h : okD Sm ji x) : jaU N x.1 x.2 = some x := by
 unfold jaU
 rfl
theorem jnb (N : Nat) (hM : Sm < N) (x : EAttr) (left : Int) (h0 : 0 ≤ left) (h1 : left ≤ 1048576) (ha : okD BigN ji x) : SzP (tot ji x) left (jbi N x.1 x.2 left) (okD Sm ji x) := by
 unfold jbi
 exact (SzP.len2 (ha.1) h0 h1 (fun r0 s0 => SzP.ret r0)).imp (by simp only [tot]; omega) fun q => ⟨q.1, ha.2⟩
theorem jnJ (N : Nat) (hM : Sm < N) (hN : N ≤ 1099511627776) (a b : List (EAttr)) (h : okD Sm (.sl ji) a) : jcW N a b = some (decide (a = b)) :=
 jW (fun (e e2 : EAttr) => jaS N e.1 e.2 e2.1 e2.2) N a b (Nat.lt_of_le_of_lt h.1 hM) hN fun x hx y => jqZ N hM hN x y (h.2 x hx)
theorem jrS (N : Nat) (hM : Sm < N) (hN : N ≤ 1099511627776) (a : List (EAttr)) (h : okD Sm (.sl ji) a) : jdC N a = some a :=
 jS (fun (e : EAttr) => jaU N e.1 e.2) (([] : List UInt8), 0) 24 N a (Nat.lt_of_le_of_lt h.1 hM) hN (by have : List.length a ≤ 1048576 := h.1; omega) fun x hx => jnq N hM hN x (h.2 x hx)
theorem jmG (N : Nat) (hM : Sm < N) (a : List (EAttr)) (left : Int) (h0 : 0 ≤ left) (h1 : left ≤ 1048576) (ha : okD BigN (.sl ji) a) : SzP (tot (.sl ji) a) left (jdz N a left) (okD Sm (.sl ji) a) :=
 jaB (fun (e : EAttr) l => jbi N e.1 e.2 l) N hM (okD Sm ji) (tot ji) a left ha.1 h0 h1 fun x hx l hl0 hl1 => jnb N hM x l hl0 hl1 (ha.2 x hx)
abbrev TDoc : Tp := .pair (.int .i64) (.pair (.sl jl) (.sl ji))
abbrev EDoc : Type := Int × (List (EField)) × (List (EAttr))
instance decDoc_1 : DecidableEq ((List (EField)) × (List (EAttr))) := inferInstance
instance decDoc : DecidableEq (EDoc) := inferInstance
theorem jsB (N : Nat) (hM : Sm < N) (hN : N ≤ 1099511627776) (x y : EDoc) (h : okD Sm TDoc x) : ja1 N x.1 x.2.1 x.2.2 y.1 y.2.1 y.2.2 = some (decide (x = y)) := by
 obtain ⟨x0, x1, x2⟩ := x
 obtain ⟨y0, y1, y2⟩ := y
 unfold ja1
 rw [jpc N hM hN x1 y1 h.2.1, Option.bind_some]
 rw [jnJ N hM hN x2 y2 h.2.2, Option.bind_some]
 clear h
 by_cases h0 : x0 = y0 <;> by_cases h1 : x1 = y1 <;> by_cases h2 : x2 = y2 <;> simp [h0, h1, h2]
theorem joL (N : Nat) (hM : Sm < N) (hN : N ≤ 1099511627776) (x : EDoc) (h : okD Sm TDoc x) : jaO N x.1 x.2.1 x.2.2 = some x := by
 unfold jaO
 rw [jtL N hM hN x.2.1 h.2.1, Option.bind_some, jrS N hM hN x.2.2 h.2.2, Option.bind_some]
theorem jki (N : Nat) (hM : Sm < N) (x : EDoc) (left : Int) (h0 : 0 ≤ left) (h1 : left ≤ 1048576) (ha : okD BigN TDoc x) : SzP (tot TDoc x) left (jaP N x.1 x.2.1 x.2.2 left) (okD Sm TDoc x) := by
 unfold jaP
 exact (SzP.then2 h1 (jlT N hM x.2.1 _ h0 h1 ha.2.1) (fun _ r0 s0 => SzP.then2 s0 (jmG N hM x.2.2 _ r0 s0 ha.2.2) (fun _ r1 s1 => SzP.ret r1))).imp (by simp only [tot]; omega) fun q => ⟨ha.1, q.1, q.2.1⟩
theorem jks (N : Nat) (hM : Sm < N) (hN : N ≤ 1099511627776) (a b : List (EDoc)) (h : okD Sm (.sl TDoc) a) : jdV N a b = some (decide (a = b)) :=
 jW (fun (e e2 : EDoc) => ja1 N e.1 e.2.1 e.2.2 e2.1 e2.2.1 e2.2.2) N a b (Nat.lt_of_le_of_lt h.1 hM) hN fun x hx y => jsB N hM hN x y (h.2 x hx)
theorem jm1 (N : Nat) (hM : Sm < N) (hN : N ≤ 1099511627776) (a : List (EDoc)) (h : okD Sm (.sl TDoc) a) : jdF N a = some a :=
 jS (fun (e : EDoc) => jaO N e.1 e.2.1 e.2.2) (0, ([] : List ((List UInt8) × (List UInt8))), ([] : List ((List UInt8) × (Int)))) 56 N a (Nat.lt_of_le_of_lt h.1 hM) hN (by have : List.length a ≤ 1048576 := h.1; omega) fun x hx => joL N hM hN x (h.2 x hx)
theorem jla (N : Nat) (hM : Sm < N) (a : List (EDoc)) (left : Int) (h0 : 0 ≤ left) (h1 : left ≤ 1048576) (ha : okD BigN (.sl TDoc) a) : SzP (tot (.sl TDoc) a) left (jdR N a left) (okD Sm (.sl TDoc) a) :=
 jaB (fun (e : EDoc) l => jaP N e.1 e.2.1 e.2.2 l) N hM (okD Sm TDoc) (tot TDoc) a left ha.1 h0 h1 fun x hx l hl0 hl1 => jki N hM x l hl0 hl1 (ha.2 x hx)
abbrev jk : Tp := .pair (.int .i64) (.sl (.int .i64))
abbrev EPost : Type := Int × (List (Int))
instance decPost : DecidableEq (EPost) := inferInstance
theorem jqP (N : Nat) (hM : Sm < N) (hN : N ≤ 1099511627776) (x y : EPost) (h : okD Sm jk x) : jbc N x.1 x.2 y.1 y.2 = some (decide (x = y)) := by
 obtain ⟨x0, x1⟩ := x
 obtain ⟨y0, y1⟩ := y
 unfold jbc
 rw [jr9 N hM hN x1 y1 h.2, Option.bind_some]
 clear h
 by_cases h0 : x0 = y0 <;> by_cases h1 : x1 = y1 <;> simp [h0, h1]
theorem jpu (N : Nat) (hM : Sm < N) (hN : N ≤ 1099511627776) (x : EPost) (h : okD Sm jk x) : jaM N x.1 x.2 = some x := by
 unfold jaM
 rw [jsG N hM hN x.2 h.2, Option.bind_some]
theorem jkf (N : Nat) (hM : Sm < N) (x : EPost) (left : Int) (h0 : 0 ≤ left) (h1 : left ≤ 1048576) (ha : okD BigN jk x) : SzP (tot jk x) left (jbr N x.1 x.2 left) (okD Sm jk x) := by
 unfold jbr
 exact (SzP.then2 h1 (jlL N hM x.2 _ h0 h1 ha.2) (fun _ r0 s0 => SzP.ret r0)).imp (by simp only [tot]; omega) fun q => ⟨ha.1, q.1⟩
theorem jmn (N : Nat) (hM : Sm < N) (hN : N ≤ 1099511627776) (a b : List (EPost)) (h : okD Sm (.sl jk) a) : jek N a b = some (decide (a = b)) :=
 jW (fun (e e2 : EPost) => jbc N e.1 e.2 e2.1 e2.2) N a b (Nat.lt_of_le_of_lt h.1 hM) hN fun x hx y => jqP N hM hN x y (h.2 x hx)
theorem jnr (N : Nat) (hM : Sm < N) (hN : N ≤ 1099511627776) (a : List (EPost)) (h : okD Sm (.sl jk) a) : jdI N a = some a :=
 jS (fun (e : EPost) => jaM N e.1 e.2) (0, ([] : List (Int))) 32 N a (Nat.lt_of_le_of_lt h.1 hM) hN (by have : List.length a ≤ 1048576 := h.1; omega) fun x hx => jpu N hM hN x (h.2 x hx)
theorem jp0 (N : Nat) (hM : Sm < N) (a : List (EPost)) (left : Int) (h0 : 0 ≤ left) (h1 : left ≤ 1048576) (ha : okD BigN (.sl jk) a) : SzP (tot (.sl jk) a) left (jc6 N a left) (okD Sm (.sl jk) a) :=
 jaB (fun (e : EPost) l => jbr N e.1 e.2 l) N hM (okD Sm jk) (tot jk) a left ha.1 h0 h1 fun x hx l hl0 hl1 => jkf N hM x l hl0 hl1 (ha.2 x hx)
abbrev jj : Tp := .pair .str (.pair .str (.sl jk))
abbrev EEntry : Type := (List UInt8) × (List UInt8) × (List (EPost))
instance decEntry_1 : DecidableEq ((List UInt8) × (List (EPost))) := inferInstance
instance decEntry : DecidableEq (EEntry) := inferInstance
theorem jmX (N : Nat) (hM : Sm < N) (hN : N ≤ 1099511627776) (x y : EEntry) (h : okD Sm jj x) : jaZ N x.1 x.2.1 x.2.2 y.1 y.2.1 y.2.2 = some (decide (x = y)) := by
 obtain ⟨x0, x1, x2⟩ := x
 obtain ⟨y0, y1, y2⟩ := y
 unfold jaZ
 rw [jmn N hM hN x2 y2 h.2.2, Option.bind_some]
 clear h
 by_cases h0 : x0 = y0 <;> by_cases h1 : x1 = y1 <;> by_cases h2 : x2 = y2 <;> simp [h0, h1, h2]
theorem jsl (N : Nat) (hM : Sm < N) (hN : N ≤ 1099511627776) (x : EEntry) (h : okD Sm jj x) : jbq N x.1 x.2.1 x.2.2 = some x := by
 unfold jbq
 rw [jnr N hM hN x.2.2 h.2.2, Option.bind_some]
theorem jmH (N : Nat) (hM : Sm < N) (x : EEntry) (left : Int) (h0 : 0 ≤ left) (h1 : left ≤ 1048576) (ha : okD BigN jj x) : SzP (tot jj x) left (jbb N x.1 x.2.1 x.2.2 left) (okD Sm jj x) := by
 unfold jbb
 exact (SzP.len2 (ha.1) h0 h1 (fun r0 s0 => SzP.len2 (ha.2.1) r0 s0 (fun r1 s1 => SzP.then2 s1 (jp0 N hM x.2.2 _ r1 s1 ha.2.2) (fun _ r2 s2 => SzP.ret r2)))).imp (by simp only [tot]; omega) fun q => ⟨q.1, q.2.1, q.2.2.1⟩
theorem jow (N : Nat) (hM : Sm < N) (hN : N ≤ 1099511627776) (a b : List (EEntry)) (h : okD Sm (.sl jj) a) : jdW N a b = some (decide (a = b)) :=
 jW (fun (e e2 : EEntry) => jaZ N e.1 e.2.1 e.2.2 e2.1 e2.2.1 e2.2.2) N a b (Nat.lt_of_le_of_lt h.1 hM) hN fun x hx y => jmX N hM hN x y (h.2 x hx)
theorem jl5 (N : Nat) (hM : Sm < N) (hN : N ≤ 1099511627776) (a : List (EEntry)) (h : okD Sm (.sl jj) a) : jd7 N a = some a :=
 jS (fun (e : EEntry) => jbq N e.1 e.2.1 e.2.2) (([] : List UInt8), ([] : List UInt8), ([] : List ((Int) × (List (Int))))) 56 N a (Nat.lt_of_le_of_lt h.1 hM) hN (by have : List.length a ≤ 1048576 := h.1; omega) fun x hx => jsl N hM hN x (h.2 x hx)
theorem jka (N : Nat) (hM : Sm < N) (a : List (EEntry)) (left : Int) (h0 : 0 ≤ left) (h1 : left ≤ 1048576) (ha : okD BigN (.sl jj) a) : SzP (tot (.sl jj) a) left (jdv N a left) (okD Sm (.sl jj) a) :=
 jaB (fun (e : EEntry) l => jbb N e.1 e.2.1 e.2.2 l) N hM (okD Sm jj) (tot jj) a left ha.1 h0 h1 fun x hx l hl0 hl1 => jmH N hM x l hl0 hl1 (ha.2 x hx)
abbrev TSeg : Tp := .pair (.sl TDoc) (.sl jj)
abbrev ESeg : Type := (List (EDoc)) × (List (EEntry))
instance decSeg : DecidableEq (ESeg) := inferInstance
theorem eqSeg_spec (N : Nat) (hM : Sm < N) (hN : N ≤ 1099511627776) (x y : ESeg) (h : okD Sm TSeg x) : jcn N x.1 x.2 y.1 y.2 = some (decide (x = y)) := by
 obtain ⟨x0, x1⟩ := x
 obtain ⟨y0, y1⟩ := y
 unfold jcn
 rw [jks N hM hN x0 y0 h.1, Option.bind_some]
 rw [jow N hM hN x1 y1 h.2, Option.bind_some]
 clear h
 by_cases h0 : x0 = y0 <;> by_cases h1 : x1 = y1 <;> simp [h0, h1]
theorem toSeg_spec (N : Nat) (hM : Sm < N) (hN : N ≤ 1099511627776) (x : ESeg) (h : okD Sm TSeg x) : jae N x.1 x.2 = some x := by
 unfold jae
 rw [jm1 N hM hN x.1 h.1, Option.bind_some, jl5 N hM hN x.2 h.2, Option.bind_some]
theorem szSeg_spec (N : Nat) (hM : Sm < N) (x : ESeg) (left : Int) (h0 : 0 ≤ left) (h1 : left ≤ 1048576) (ha : okD BigN TSeg x) : SzP (tot TSeg x) left (jbW N x.1 x.2 left) (okD Sm TSeg x) := by
 unfold jbW
 exact (SzP.then2 h1 (jla N hM x.1 _ h0 h1 ha.1) (fun _ r0 s0 => SzP.then2 s0 (jka N hM x.2 _ r0 s0 ha.2) (fun _ r1 s1 => SzP.ret r1))).imp (by simp only [tot]; omega) fun q => ⟨q.1, q.2.1⟩
abbrev EHit : Type := Int × Int
instance decHit : DecidableEq (EHit) := inferInstance
end Go.Proofs.YtcjbjmbialienaaGreatDoor
