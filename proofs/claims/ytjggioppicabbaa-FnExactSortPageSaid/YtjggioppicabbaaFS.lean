/- Plain laws: the laws' own functions over Field, Attr, Doc, Key. -/
import Derived.Test.YtjggioppicabbaaQ1
import Derived.Test.YtjggioppicabbaaG1
set_option linter.unusedVariables false
set_option linter.unusedSimpArgs false
namespace Go.Proofs.Ytjggioppicabbaa
open Go.RowKit
abbrev TField : Tp := .pair .str .str
abbrev EField : Type := (List UInt8) × (List UInt8)
instance decField : DecidableEq (EField) := inferInstance
theorem eqField_spec (N : Nat) (hM : Sm < N) (hN : N ≤ 1099511627776) (x y : EField) (h : okD Sm TField x) : l_eqField_m N x.1 x.2 y.1 y.2 = some (decide (x = y)) := by
  obtain ⟨x0, x1⟩ := x
  obtain ⟨y0, y1⟩ := y
  unfold l_eqField_m
  clear h
  by_cases h0 : x0 = y0 <;> by_cases h1 : x1 = y1 <;> simp [h0, h1]
theorem toField_spec (N : Nat) (hM : Sm < N) (hN : N ≤ 1099511627776) (x : EField) (h : okD Sm TField x) : l_toField_m N x.1 x.2 = some x := by
  unfold l_toField_m
  rfl
theorem szField_spec (N : Nat) (hM : Sm < N) (x : EField) (left : Int) (h0 : 0 ≤ left) (h1 : left ≤ 1048576) (ha : okD BigN TField x) : SzP left (l_szField_m N x.1 x.2 left) (okD Sm TField x) := by
  unfold l_szField_m
  exact (SzP.len2 (ha.1) h0 h1 (fun r0 s0 => SzP.len2 (ha.2) r0 s0 (fun r1 s1 => SzP.ret r1))).imp fun q => ⟨q.1, q.2.1⟩
theorem eqFieldS_spec (N : Nat) (hM : Sm < N) (hN : N ≤ 1099511627776) (a b : List (EField)) (h : okD Sm (.sl TField) a) : l_eqFieldS_m N a b = some (decide (a = b)) :=
  eqLoop_spec (fun (e e2 : EField) => l_eqField_m N e.1 e.2 e2.1 e2.2) N a b (Nat.lt_of_le_of_lt h.1 hM) hN fun x hx y => eqField_spec N hM hN x y (h.2 x hx)
theorem toFieldS_spec (N : Nat) (hM : Sm < N) (hN : N ≤ 1099511627776) (a : List (EField)) (h : okD Sm (.sl TField) a) : l_toFieldS_m N a = some a :=
  toLoop_spec (fun (e : EField) => l_toField_m N e.1 e.2) (([] : List UInt8), ([] : List UInt8)) 32 N a (Nat.lt_of_le_of_lt h.1 hM) hN (by have : List.length a ≤ 1048576 := h.1; omega) fun x hx => toField_spec N hM hN x (h.2 x hx)
theorem szFieldS_spec (N : Nat) (hM : Sm < N) (a : List (EField)) (left : Int) (h0 : 0 ≤ left) (h1 : left ≤ 1048576) (ha : okD BigN (.sl TField) a) : SzP left (l_szFieldS_m N a left) (okD Sm (.sl TField) a) :=
  szLoop_spec (fun (e : EField) l => l_szField_m N e.1 e.2 l) N hM (okD Sm TField) a left ha.1 h0 h1 fun x hx l hl0 hl1 => szField_spec N hM x l hl0 hl1 (ha.2 x hx)
abbrev TAttr : Tp := .pair .str (.int .i64)
abbrev EAttr : Type := (List UInt8) × Int
instance decAttr : DecidableEq (EAttr) := inferInstance
theorem eqAttr_spec (N : Nat) (hM : Sm < N) (hN : N ≤ 1099511627776) (x y : EAttr) (h : okD Sm TAttr x) : l_eqAttr_m N x.1 x.2 y.1 y.2 = some (decide (x = y)) := by
  obtain ⟨x0, x1⟩ := x
  obtain ⟨y0, y1⟩ := y
  unfold l_eqAttr_m
  clear h
  by_cases h0 : x0 = y0 <;> by_cases h1 : x1 = y1 <;> simp [h0, h1]
theorem toAttr_spec (N : Nat) (hM : Sm < N) (hN : N ≤ 1099511627776) (x : EAttr) (h : okD Sm TAttr x) : l_toAttr_m N x.1 x.2 = some x := by
  unfold l_toAttr_m
  rfl
theorem szAttr_spec (N : Nat) (hM : Sm < N) (x : EAttr) (left : Int) (h0 : 0 ≤ left) (h1 : left ≤ 1048576) (ha : okD BigN TAttr x) : SzP left (l_szAttr_m N x.1 x.2 left) (okD Sm TAttr x) := by
  unfold l_szAttr_m
  exact (SzP.len2 (ha.1) h0 h1 (fun r0 s0 => SzP.ret r0)).imp fun q => ⟨q.1, ha.2⟩
theorem eqAttrS_spec (N : Nat) (hM : Sm < N) (hN : N ≤ 1099511627776) (a b : List (EAttr)) (h : okD Sm (.sl TAttr) a) : l_eqAttrS_m N a b = some (decide (a = b)) :=
  eqLoop_spec (fun (e e2 : EAttr) => l_eqAttr_m N e.1 e.2 e2.1 e2.2) N a b (Nat.lt_of_le_of_lt h.1 hM) hN fun x hx y => eqAttr_spec N hM hN x y (h.2 x hx)
theorem toAttrS_spec (N : Nat) (hM : Sm < N) (hN : N ≤ 1099511627776) (a : List (EAttr)) (h : okD Sm (.sl TAttr) a) : l_toAttrS_m N a = some a :=
  toLoop_spec (fun (e : EAttr) => l_toAttr_m N e.1 e.2) (([] : List UInt8), 0) 24 N a (Nat.lt_of_le_of_lt h.1 hM) hN (by have : List.length a ≤ 1048576 := h.1; omega) fun x hx => toAttr_spec N hM hN x (h.2 x hx)
theorem szAttrS_spec (N : Nat) (hM : Sm < N) (a : List (EAttr)) (left : Int) (h0 : 0 ≤ left) (h1 : left ≤ 1048576) (ha : okD BigN (.sl TAttr) a) : SzP left (l_szAttrS_m N a left) (okD Sm (.sl TAttr) a) :=
  szLoop_spec (fun (e : EAttr) l => l_szAttr_m N e.1 e.2 l) N hM (okD Sm TAttr) a left ha.1 h0 h1 fun x hx l hl0 hl1 => szAttr_spec N hM x l hl0 hl1 (ha.2 x hx)
abbrev TDoc : Tp := .pair (.int .i64) (.pair (.sl TField) (.sl TAttr))
abbrev EDoc : Type := Int × (List (EField)) × (List (EAttr))
instance decDoc_1 : DecidableEq ((List (EField)) × (List (EAttr))) := inferInstance
instance decDoc : DecidableEq (EDoc) := inferInstance
theorem eqDoc_spec (N : Nat) (hM : Sm < N) (hN : N ≤ 1099511627776) (x y : EDoc) (h : okD Sm TDoc x) : l_eqDoc_m N x.1 x.2.1 x.2.2 y.1 y.2.1 y.2.2 = some (decide (x = y)) := by
  obtain ⟨x0, x1, x2⟩ := x
  obtain ⟨y0, y1, y2⟩ := y
  unfold l_eqDoc_m
  rw [eqFieldS_spec N hM hN x1 y1 h.2.1, Option.bind_some]
  rw [eqAttrS_spec N hM hN x2 y2 h.2.2, Option.bind_some]
  clear h
  by_cases h0 : x0 = y0 <;> by_cases h1 : x1 = y1 <;> by_cases h2 : x2 = y2 <;> simp [h0, h1, h2]
theorem toDoc_spec (N : Nat) (hM : Sm < N) (hN : N ≤ 1099511627776) (x : EDoc) (h : okD Sm TDoc x) : l_toDoc_m N x.1 x.2.1 x.2.2 = some x := by
  unfold l_toDoc_m
  rw [toFieldS_spec N hM hN x.2.1 h.2.1, Option.bind_some, toAttrS_spec N hM hN x.2.2 h.2.2, Option.bind_some]
theorem szDoc_spec (N : Nat) (hM : Sm < N) (x : EDoc) (left : Int) (h0 : 0 ≤ left) (h1 : left ≤ 1048576) (ha : okD BigN TDoc x) : SzP left (l_szDoc_m N x.1 x.2.1 x.2.2 left) (okD Sm TDoc x) := by
  unfold l_szDoc_m
  exact (SzP.then2 h1 (szFieldS_spec N hM x.2.1 _ h0 h1 ha.2.1) (fun _ r0 s0 => SzP.then2 s0 (szAttrS_spec N hM x.2.2 _ r0 s0 ha.2.2) (fun _ r1 s1 => SzP.ret r1))).imp fun q => ⟨ha.1, q.1, q.2.1⟩
theorem eqDocS_spec (N : Nat) (hM : Sm < N) (hN : N ≤ 1099511627776) (a b : List (EDoc)) (h : okD Sm (.sl TDoc) a) : l_eqDocS_m N a b = some (decide (a = b)) :=
  eqLoop_spec (fun (e e2 : EDoc) => l_eqDoc_m N e.1 e.2.1 e.2.2 e2.1 e2.2.1 e2.2.2) N a b (Nat.lt_of_le_of_lt h.1 hM) hN fun x hx y => eqDoc_spec N hM hN x y (h.2 x hx)
theorem toDocS_spec (N : Nat) (hM : Sm < N) (hN : N ≤ 1099511627776) (a : List (EDoc)) (h : okD Sm (.sl TDoc) a) : l_toDocS_m N a = some a :=
  toLoop_spec (fun (e : EDoc) => l_toDoc_m N e.1 e.2.1 e.2.2) (0, ([] : List ((List UInt8) × (List UInt8))), ([] : List ((List UInt8) × (Int)))) 56 N a (Nat.lt_of_le_of_lt h.1 hM) hN (by have : List.length a ≤ 1048576 := h.1; omega) fun x hx => toDoc_spec N hM hN x (h.2 x hx)
theorem szDocS_spec (N : Nat) (hM : Sm < N) (a : List (EDoc)) (left : Int) (h0 : 0 ≤ left) (h1 : left ≤ 1048576) (ha : okD BigN (.sl TDoc) a) : SzP left (l_szDocS_m N a left) (okD Sm (.sl TDoc) a) :=
  szLoop_spec (fun (e : EDoc) l => l_szDoc_m N e.1 e.2.1 e.2.2 l) N hM (okD Sm TDoc) a left ha.1 h0 h1 fun x hx l hl0 hl1 => szDoc_spec N hM x l hl0 hl1 (ha.2 x hx)
abbrev TKey : Tp := .pair .str .bool
abbrev EKey : Type := (List UInt8) × Bool
instance decKey : DecidableEq (EKey) := inferInstance
theorem eqKey_spec (N : Nat) (hM : Sm < N) (hN : N ≤ 1099511627776) (x y : EKey) (h : okD Sm TKey x) : l_eqKey_m N x.1 x.2 y.1 y.2 = some (decide (x = y)) := by
  obtain ⟨x0, x1⟩ := x
  obtain ⟨y0, y1⟩ := y
  unfold l_eqKey_m
  clear h
  cases x1 <;> cases y1 <;> by_cases h0 : x0 = y0 <;> simp [h0]
theorem toKey_spec (N : Nat) (hM : Sm < N) (hN : N ≤ 1099511627776) (x : EKey) (h : okD Sm TKey x) : l_toKey_m N x.1 x.2 = some x := by
  unfold l_toKey_m
  rfl
theorem szKey_spec (N : Nat) (hM : Sm < N) (x : EKey) (left : Int) (h0 : 0 ≤ left) (h1 : left ≤ 1048576) (ha : okD BigN TKey x) : SzP left (l_szKey_m N x.1 x.2 left) (okD Sm TKey x) := by
  unfold l_szKey_m
  exact (SzP.len2 (ha.1) h0 h1 (fun r0 s0 => SzP.ret r0)).imp fun q => ⟨q.1, ha.2⟩
theorem eqKeyS_spec (N : Nat) (hM : Sm < N) (hN : N ≤ 1099511627776) (a b : List (EKey)) (h : okD Sm (.sl TKey) a) : l_eqKeyS_m N a b = some (decide (a = b)) :=
  eqLoop_spec (fun (e e2 : EKey) => l_eqKey_m N e.1 e.2 e2.1 e2.2) N a b (Nat.lt_of_le_of_lt h.1 hM) hN fun x hx y => eqKey_spec N hM hN x y (h.2 x hx)
theorem toKeyS_spec (N : Nat) (hM : Sm < N) (hN : N ≤ 1099511627776) (a : List (EKey)) (h : okD Sm (.sl TKey) a) : l_toKeyS_m N a = some a :=
  toLoop_spec (fun (e : EKey) => l_toKey_m N e.1 e.2) (([] : List UInt8), false) 24 N a (Nat.lt_of_le_of_lt h.1 hM) hN (by have : List.length a ≤ 1048576 := h.1; omega) fun x hx => toKey_spec N hM hN x (h.2 x hx)
theorem szKeyS_spec (N : Nat) (hM : Sm < N) (a : List (EKey)) (left : Int) (h0 : 0 ≤ left) (h1 : left ≤ 1048576) (ha : okD BigN (.sl TKey) a) : SzP left (l_szKeyS_m N a left) (okD Sm (.sl TKey) a) :=
  szLoop_spec (fun (e : EKey) l => l_szKey_m N e.1 e.2 l) N hM (okD Sm TKey) a left ha.1 h0 h1 fun x hx l hl0 hl1 => szKey_spec N hM x l hl0 hl1 (ha.2 x hx)
end Go.Proofs.Ytjggioppicabbaa
