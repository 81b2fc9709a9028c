/- Plain laws: the laws' own functions over string, int, Syn, Conf, Field, Attr, Doc, Post, Entry, Seg. -/
import Derived.Test.YtcjbjmbialienaaGreatQ1
import Derived.Test.YtcjbjmbialienaaGreatG1
set_option linter.unusedVariables false
set_option linter.unusedSimpArgs false
namespace Go.Proofs.YtcjbjmbialienaaGreat
open Go.RowKit
theorem eqStringS_spec (N : Nat) (hM : Sm < N) (hN : N ≤ 1099511627776) (a b : List (List UInt8)) (h : okD Sm (.sl .str) a) : l_eqStringS_m N a b = some (decide (a = b)) :=
  eqLoop_spec (fun (e e2 : List UInt8) => some (decide (e = e2))) N a b (Nat.lt_of_le_of_lt h.1 hM) hN fun x hx y => rfl
theorem toStringS_spec (N : Nat) (hM : Sm < N) (hN : N ≤ 1099511627776) (a : List (List UInt8)) (h : okD Sm (.sl .str) a) : l_toStringS_m N a = some a :=
  toLoop_spec (fun (e : List UInt8) => some e) ([] : List UInt8) 16 N a (Nat.lt_of_le_of_lt h.1 hM) hN (by have : List.length a ≤ 1048576 := h.1; omega) fun x hx => rfl
theorem szStringS_spec (N : Nat) (hM : Sm < N) (a : List (List UInt8)) (left : Int) (h0 : 0 ≤ left) (h1 : left ≤ 1048576) (ha : okD BigN (.sl .str) a) : SzP left (l_szStringS_m N a left) (okD Sm (.sl .str) a) :=
  szLoop2_spec N hM a left ha.1 h0 h1 fun x hx => ha.2 x hx
theorem eqIntS_spec (N : Nat) (hM : Sm < N) (hN : N ≤ 1099511627776) (a b : List (Int)) (h : okD Sm (.sl (.int .i64)) a) : l_eqIntS_m N a b = some (decide (a = b)) :=
  eqLoop_spec (fun (e e2 : Int) => some (decide (e = e2))) N a b (Nat.lt_of_le_of_lt h.1 hM) hN fun x hx y => rfl
theorem toIntS_spec (N : Nat) (hM : Sm < N) (hN : N ≤ 1099511627776) (a : List (Int)) (h : okD Sm (.sl (.int .i64)) a) : l_toIntS_m N a = some a :=
  toLoop_spec (fun (e : Int) => some e) 0 8 N a (Nat.lt_of_le_of_lt h.1 hM) hN (by have : List.length a ≤ 1048576 := h.1; omega) fun x hx => rfl
theorem szIntS_spec (N : Nat) (hM : Sm < N) (a : List (Int)) (left : Int) (h0 : 0 ≤ left) (h1 : left ≤ 1048576) (ha : okD BigN (.sl (.int .i64)) a) : SzP left (l_szIntS_m N a left) (okD Sm (.sl (.int .i64)) a) :=
  SzP.len ha.1 h0 h1 (fun a b => SzP.ret a) fun h _ => ⟨h, ha.2⟩
abbrev TSyn : Tp := .pair (.sl .str) .str
abbrev ESyn : Type := (List (List UInt8)) × (List UInt8)
instance decSyn : DecidableEq (ESyn) := inferInstance
theorem eqSyn_spec (N : Nat) (hM : Sm < N) (hN : N ≤ 1099511627776) (x y : ESyn) (h : okD Sm TSyn x) : l_eqSyn_m N x.1 x.2 y.1 y.2 = some (decide (x = y)) := by
  obtain ⟨x0, x1⟩ := x
  obtain ⟨y0, y1⟩ := y
  unfold l_eqSyn_m
  rw [eqStringS_spec N hM hN x0 y0 h.1, Option.bind_some]
  clear h
  by_cases h0 : x0 = y0 <;> by_cases h1 : x1 = y1 <;> simp [h0, h1]
theorem toSyn_spec (N : Nat) (hM : Sm < N) (hN : N ≤ 1099511627776) (x : ESyn) (h : okD Sm TSyn x) : l_toSyn_m N x.1 x.2 = some x := by
  unfold l_toSyn_m
  rw [toStringS_spec N hM hN x.1 h.1, Option.bind_some]
theorem szSyn_spec (N : Nat) (hM : Sm < N) (x : ESyn) (left : Int) (h0 : 0 ≤ left) (h1 : left ≤ 1048576) (ha : okD BigN TSyn x) : SzP left (l_szSyn_m N x.1 x.2 left) (okD Sm TSyn x) := by
  unfold l_szSyn_m
  exact (SzP.then2 h1 (szStringS_spec N hM x.1 _ h0 h1 ha.1) (fun _ r0 s0 => SzP.len2 (ha.2) r0 s0 (fun r1 s1 => SzP.ret r1))).imp fun q => ⟨q.1, q.2.1⟩
theorem eqSynS_spec (N : Nat) (hM : Sm < N) (hN : N ≤ 1099511627776) (a b : List (ESyn)) (h : okD Sm (.sl TSyn) a) : l_eqSynS_m N a b = some (decide (a = b)) :=
  eqLoop_spec (fun (e e2 : ESyn) => l_eqSyn_m N e.1 e.2 e2.1 e2.2) N a b (Nat.lt_of_le_of_lt h.1 hM) hN fun x hx y => eqSyn_spec N hM hN x y (h.2 x hx)
theorem toSynS_spec (N : Nat) (hM : Sm < N) (hN : N ≤ 1099511627776) (a : List (ESyn)) (h : okD Sm (.sl TSyn) a) : l_toSynS_m N a = some a :=
  toLoop_spec (fun (e : ESyn) => l_toSyn_m N e.1 e.2) (([] : List (List UInt8)), ([] : List UInt8)) 40 N a (Nat.lt_of_le_of_lt h.1 hM) hN (by have : List.length a ≤ 1048576 := h.1; omega) fun x hx => toSyn_spec N hM hN x (h.2 x hx)
theorem szSynS_spec (N : Nat) (hM : Sm < N) (a : List (ESyn)) (left : Int) (h0 : 0 ≤ left) (h1 : left ≤ 1048576) (ha : okD BigN (.sl TSyn) a) : SzP left (l_szSynS_m N a left) (okD Sm (.sl TSyn) a) :=
  szLoop_spec (fun (e : ESyn) l => l_szSyn_m N e.1 e.2 l) N hM (okD Sm TSyn) a left ha.1 h0 h1 fun x hx l hl0 hl1 => szSyn_spec N hM x l hl0 hl1 (ha.2 x hx)
abbrev TConf : Tp := .pair (.sl .str) (.sl TSyn)
abbrev EConf : Type := (List (List UInt8)) × (List (ESyn))
instance decConf : DecidableEq (EConf) := inferInstance
theorem eqConf_spec (N : Nat) (hM : Sm < N) (hN : N ≤ 1099511627776) (x y : EConf) (h : okD Sm TConf x) : l_eqConf_m N x.1 x.2 y.1 y.2 = some (decide (x = y)) := by
  obtain ⟨x0, x1⟩ := x
  obtain ⟨y0, y1⟩ := y
  unfold l_eqConf_m
  rw [eqStringS_spec N hM hN x0 y0 h.1, Option.bind_some]
  rw [eqSynS_spec N hM hN x1 y1 h.2, Option.bind_some]
  clear h
  by_cases h0 : x0 = y0 <;> by_cases h1 : x1 = y1 <;> simp [h0, h1]
theorem toConf_spec (N : Nat) (hM : Sm < N) (hN : N ≤ 1099511627776) (x : EConf) (h : okD Sm TConf x) : l_toConf_m N x.1 x.2 = some x := by
  unfold l_toConf_m
  rw [toStringS_spec N hM hN x.1 h.1, Option.bind_some, toSynS_spec N hM hN x.2 h.2, Option.bind_some]
theorem szConf_spec (N : Nat) (hM : Sm < N) (x : EConf) (left : Int) (h0 : 0 ≤ left) (h1 : left ≤ 1048576) (ha : okD BigN TConf x) : SzP left (l_szConf_m N x.1 x.2 left) (okD Sm TConf x) := by
  unfold l_szConf_m
  exact (SzP.then2 h1 (szStringS_spec N hM x.1 _ h0 h1 ha.1) (fun _ r0 s0 => SzP.then2 s0 (szSynS_spec N hM x.2 _ r0 s0 ha.2) (fun _ r1 s1 => SzP.ret r1))).imp fun q => ⟨q.1, q.2.1⟩
abbrev TField : Tp := .pair .str .str
abbrev EField : Type := (List UInt8) × (List UInt8)
instance decField : DecidableEq (EField) := inferInstance
theorem eqField_spec (N : Nat) (hM : Sm < N) (hN : N ≤ 1099511627776) (x y : EField) (h : okD Sm TField x) : l_eqField_m N x.1 x.2 y.1 y.2 = some (decide (x = y)) := by
  obtain ⟨x0, x1⟩ := x
  obtain ⟨y0, y1⟩ := y
  unfold l_eqField_m
  clear h
  by_cases h0 : x0 = y0 <;> by_cases h1 : x1 = y1 <;> simp [h0, h1]
theorem toField_spec (N : Nat) (hM : Sm < N) (hN : N ≤ 1099511627776) (x : EField) (h : okD Sm TField x) : l_toField_m N x.1 x.2 = some x := by
  unfold l_toField_m
  rfl
theorem szField_spec (N : Nat) (hM : Sm < N) (x : EField) (left : Int) (h0 : 0 ≤ left) (h1 : left ≤ 1048576) (ha : okD BigN TField x) : SzP left (l_szField_m N x.1 x.2 left) (okD Sm TField x) := by
  unfold l_szField_m
  exact (SzP.len2 (ha.1) h0 h1 (fun r0 s0 => SzP.len2 (ha.2) r0 s0 (fun r1 s1 => SzP.ret r1))).imp fun q => ⟨q.1, q.2.1⟩
theorem eqFieldS_spec (N : Nat) (hM : Sm < N) (hN : N ≤ 1099511627776) (a b : List (EField)) (h : okD Sm (.sl TField) a) : l_eqFieldS_m N a b = some (decide (a = b)) :=
  eqLoop_spec (fun (e e2 : EField) => l_eqField_m N e.1 e.2 e2.1 e2.2) N a b (Nat.lt_of_le_of_lt h.1 hM) hN fun x hx y => eqField_spec N hM hN x y (h.2 x hx)
theorem toFieldS_spec (N : Nat) (hM : Sm < N) (hN : N ≤ 1099511627776) (a : List (EField)) (h : okD Sm (.sl TField) a) : l_toFieldS_m N a = some a :=
  toLoop_spec (fun (e : EField) => l_toField_m N e.1 e.2) (([] : List UInt8), ([] : List UInt8)) 32 N a (Nat.lt_of_le_of_lt h.1 hM) hN (by have : List.length a ≤ 1048576 := h.1; omega) fun x hx => toField_spec N hM hN x (h.2 x hx)
theorem szFieldS_spec (N : Nat) (hM : Sm < N) (a : List (EField)) (left : Int) (h0 : 0 ≤ left) (h1 : left ≤ 1048576) (ha : okD BigN (.sl TField) a) : SzP left (l_szFieldS_m N a left) (okD Sm (.sl TField) a) :=
  szLoop_spec (fun (e : EField) l => l_szField_m N e.1 e.2 l) N hM (okD Sm TField) a left ha.1 h0 h1 fun x hx l hl0 hl1 => szField_spec N hM x l hl0 hl1 (ha.2 x hx)
abbrev TAttr : Tp := .pair .str (.int .i64)
abbrev EAttr : Type := (List UInt8) × Int
instance decAttr : DecidableEq (EAttr) := inferInstance
theorem eqAttr_spec (N : Nat) (hM : Sm < N) (hN : N ≤ 1099511627776) (x y : EAttr) (h : okD Sm TAttr x) : l_eqAttr_m N x.1 x.2 y.1 y.2 = some (decide (x = y)) := by
  obtain ⟨x0, x1⟩ := x
  obtain ⟨y0, y1⟩ := y
  unfold l_eqAttr_m
  clear h
  by_cases h0 : x0 = y0 <;> by_cases h1 : x1 = y1 <;> simp [h0, h1]
theorem toAttr_spec (N : Nat) (hM : Sm < N) (hN : N ≤ 1099511627776) (x : EAttr) (h : okD Sm TAttr x) : l_toAttr_m N x.1 x.2 = some x := by
  unfold l_toAttr_m
  rfl
theorem szAttr_spec (N : Nat) (hM : Sm < N) (x : EAttr) (left : Int) (h0 : 0 ≤ left) (h1 : left ≤ 1048576) (ha : okD BigN TAttr x) : SzP left (l_szAttr_m N x.1 x.2 left) (okD Sm TAttr x) := by
  unfold l_szAttr_m
  exact (SzP.len2 (ha.1) h0 h1 (fun r0 s0 => SzP.ret r0)).imp fun q => ⟨q.1, ha.2⟩
theorem eqAttrS_spec (N : Nat) (hM : Sm < N) (hN : N ≤ 1099511627776) (a b : List (EAttr)) (h : okD Sm (.sl TAttr) a) : l_eqAttrS_m N a b = some (decide (a = b)) :=
  eqLoop_spec (fun (e e2 : EAttr) => l_eqAttr_m N e.1 e.2 e2.1 e2.2) N a b (Nat.lt_of_le_of_lt h.1 hM) hN fun x hx y => eqAttr_spec N hM hN x y (h.2 x hx)
theorem toAttrS_spec (N : Nat) (hM : Sm < N) (hN : N ≤ 1099511627776) (a : List (EAttr)) (h : okD Sm (.sl TAttr) a) : l_toAttrS_m N a = some a :=
  toLoop_spec (fun (e : EAttr) => l_toAttr_m N e.1 e.2) (([] : List UInt8), 0) 24 N a (Nat.lt_of_le_of_lt h.1 hM) hN (by have : List.length a ≤ 1048576 := h.1; omega) fun x hx => toAttr_spec N hM hN x (h.2 x hx)
theorem szAttrS_spec (N : Nat) (hM : Sm < N) (a : List (EAttr)) (left : Int) (h0 : 0 ≤ left) (h1 : left ≤ 1048576) (ha : okD BigN (.sl TAttr) a) : SzP left (l_szAttrS_m N a left) (okD Sm (.sl TAttr) a) :=
  szLoop_spec (fun (e : EAttr) l => l_szAttr_m N e.1 e.2 l) N hM (okD Sm TAttr) a left ha.1 h0 h1 fun x hx l hl0 hl1 => szAttr_spec N hM x l hl0 hl1 (ha.2 x hx)
abbrev TDoc : Tp := .pair (.int .i64) (.pair (.sl TField) (.sl TAttr))
abbrev EDoc : Type := Int × (List (EField)) × (List (EAttr))
instance decDoc_1 : DecidableEq ((List (EField)) × (List (EAttr))) := inferInstance
instance decDoc : DecidableEq (EDoc) := inferInstance
theorem eqDoc_spec (N : Nat) (hM : Sm < N) (hN : N ≤ 1099511627776) (x y : EDoc) (h : okD Sm TDoc x) : l_eqDoc_m N x.1 x.2.1 x.2.2 y.1 y.2.1 y.2.2 = some (decide (x = y)) := by
  obtain ⟨x0, x1, x2⟩ := x
  obtain ⟨y0, y1, y2⟩ := y
  unfold l_eqDoc_m
  rw [eqFieldS_spec N hM hN x1 y1 h.2.1, Option.bind_some]
  rw [eqAttrS_spec N hM hN x2 y2 h.2.2, Option.bind_some]
  clear h
  by_cases h0 : x0 = y0 <;> by_cases h1 : x1 = y1 <;> by_cases h2 : x2 = y2 <;> simp [h0, h1, h2]
theorem toDoc_spec (N : Nat) (hM : Sm < N) (hN : N ≤ 1099511627776) (x : EDoc) (h : okD Sm TDoc x) : l_toDoc_m N x.1 x.2.1 x.2.2 = some x := by
  unfold l_toDoc_m
  rw [toFieldS_spec N hM hN x.2.1 h.2.1, Option.bind_some, toAttrS_spec N hM hN x.2.2 h.2.2, Option.bind_some]
theorem szDoc_spec (N : Nat) (hM : Sm < N) (x : EDoc) (left : Int) (h0 : 0 ≤ left) (h1 : left ≤ 1048576) (ha : okD BigN TDoc x) : SzP left (l_szDoc_m N x.1 x.2.1 x.2.2 left) (okD Sm TDoc x) := by
  unfold l_szDoc_m
  exact (SzP.then2 h1 (szFieldS_spec N hM x.2.1 _ h0 h1 ha.2.1) (fun _ r0 s0 => SzP.then2 s0 (szAttrS_spec N hM x.2.2 _ r0 s0 ha.2.2) (fun _ r1 s1 => SzP.ret r1))).imp fun q => ⟨ha.1, q.1, q.2.1⟩
theorem eqDocS_spec (N : Nat) (hM : Sm < N) (hN : N ≤ 1099511627776) (a b : List (EDoc)) (h : okD Sm (.sl TDoc) a) : l_eqDocS_m N a b = some (decide (a = b)) :=
  eqLoop_spec (fun (e e2 : EDoc) => l_eqDoc_m N e.1 e.2.1 e.2.2 e2.1 e2.2.1 e2.2.2) N a b (Nat.lt_of_le_of_lt h.1 hM) hN fun x hx y => eqDoc_spec N hM hN x y (h.2 x hx)
theorem toDocS_spec (N : Nat) (hM : Sm < N) (hN : N ≤ 1099511627776) (a : List (EDoc)) (h : okD Sm (.sl TDoc) a) : l_toDocS_m N a = some a :=
  toLoop_spec (fun (e : EDoc) => l_toDoc_m N e.1 e.2.1 e.2.2) (0, ([] : List ((List UInt8) × (List UInt8))), ([] : List ((List UInt8) × (Int)))) 56 N a (Nat.lt_of_le_of_lt h.1 hM) hN (by have : List.length a ≤ 1048576 := h.1; omega) fun x hx => toDoc_spec N hM hN x (h.2 x hx)
theorem szDocS_spec (N : Nat) (hM : Sm < N) (a : List (EDoc)) (left : Int) (h0 : 0 ≤ left) (h1 : left ≤ 1048576) (ha : okD BigN (.sl TDoc) a) : SzP left (l_szDocS_m N a left) (okD Sm (.sl TDoc) a) :=
  szLoop_spec (fun (e : EDoc) l => l_szDoc_m N e.1 e.2.1 e.2.2 l) N hM (okD Sm TDoc) a left ha.1 h0 h1 fun x hx l hl0 hl1 => szDoc_spec N hM x l hl0 hl1 (ha.2 x hx)
abbrev TPost : Tp := .pair (.int .i64) (.sl (.int .i64))
abbrev EPost : Type := Int × (List (Int))
instance decPost : DecidableEq (EPost) := inferInstance
theorem eqPost_spec (N : Nat) (hM : Sm < N) (hN : N ≤ 1099511627776) (x y : EPost) (h : okD Sm TPost x) : l_eqPost_m N x.1 x.2 y.1 y.2 = some (decide (x = y)) := by
  obtain ⟨x0, x1⟩ := x
  obtain ⟨y0, y1⟩ := y
  unfold l_eqPost_m
  rw [eqIntS_spec N hM hN x1 y1 h.2, Option.bind_some]
  clear h
  by_cases h0 : x0 = y0 <;> by_cases h1 : x1 = y1 <;> simp [h0, h1]
theorem toPost_spec (N : Nat) (hM : Sm < N) (hN : N ≤ 1099511627776) (x : EPost) (h : okD Sm TPost x) : l_toPost_m N x.1 x.2 = some x := by
  unfold l_toPost_m
  rw [toIntS_spec N hM hN x.2 h.2, Option.bind_some]
theorem szPost_spec (N : Nat) (hM : Sm < N) (x : EPost) (left : Int) (h0 : 0 ≤ left) (h1 : left ≤ 1048576) (ha : okD BigN TPost x) : SzP left (l_szPost_m N x.1 x.2 left) (okD Sm TPost x) := by
  unfold l_szPost_m
  exact (SzP.then2 h1 (szIntS_spec N hM x.2 _ h0 h1 ha.2) (fun _ r0 s0 => SzP.ret r0)).imp fun q => ⟨ha.1, q.1⟩
theorem eqPostS_spec (N : Nat) (hM : Sm < N) (hN : N ≤ 1099511627776) (a b : List (EPost)) (h : okD Sm (.sl TPost) a) : l_eqPostS_m N a b = some (decide (a = b)) :=
  eqLoop_spec (fun (e e2 : EPost) => l_eqPost_m N e.1 e.2 e2.1 e2.2) N a b (Nat.lt_of_le_of_lt h.1 hM) hN fun x hx y => eqPost_spec N hM hN x y (h.2 x hx)
theorem toPostS_spec (N : Nat) (hM : Sm < N) (hN : N ≤ 1099511627776) (a : List (EPost)) (h : okD Sm (.sl TPost) a) : l_toPostS_m N a = some a :=
  toLoop_spec (fun (e : EPost) => l_toPost_m N e.1 e.2) (0, ([] : List (Int))) 32 N a (Nat.lt_of_le_of_lt h.1 hM) hN (by have : List.length a ≤ 1048576 := h.1; omega) fun x hx => toPost_spec N hM hN x (h.2 x hx)
theorem szPostS_spec (N : Nat) (hM : Sm < N) (a : List (EPost)) (left : Int) (h0 : 0 ≤ left) (h1 : left ≤ 1048576) (ha : okD BigN (.sl TPost) a) : SzP left (l_szPostS_m N a left) (okD Sm (.sl TPost) a) :=
  szLoop_spec (fun (e : EPost) l => l_szPost_m N e.1 e.2 l) N hM (okD Sm TPost) a left ha.1 h0 h1 fun x hx l hl0 hl1 => szPost_spec N hM x l hl0 hl1 (ha.2 x hx)
abbrev TEntry : Tp := .pair .str (.pair .str (.sl TPost))
abbrev EEntry : Type := (List UInt8) × (List UInt8) × (List (EPost))
instance decEntry_1 : DecidableEq ((List UInt8) × (List (EPost))) := inferInstance
instance decEntry : DecidableEq (EEntry) := inferInstance
theorem eqEntry_spec (N : Nat) (hM : Sm < N) (hN : N ≤ 1099511627776) (x y : EEntry) (h : okD Sm TEntry x) : l_eqEntry_m N x.1 x.2.1 x.2.2 y.1 y.2.1 y.2.2 = some (decide (x = y)) := by
  obtain ⟨x0, x1, x2⟩ := x
  obtain ⟨y0, y1, y2⟩ := y
  unfold l_eqEntry_m
  rw [eqPostS_spec N hM hN x2 y2 h.2.2, Option.bind_some]
  clear h
  by_cases h0 : x0 = y0 <;> by_cases h1 : x1 = y1 <;> by_cases h2 : x2 = y2 <;> simp [h0, h1, h2]
theorem toEntry_spec (N : Nat) (hM : Sm < N) (hN : N ≤ 1099511627776) (x : EEntry) (h : okD Sm TEntry x) : l_toEntry_m N x.1 x.2.1 x.2.2 = some x := by
  unfold l_toEntry_m
  rw [toPostS_spec N hM hN x.2.2 h.2.2, Option.bind_some]
theorem szEntry_spec (N : Nat) (hM : Sm < N) (x : EEntry) (left : Int) (h0 : 0 ≤ left) (h1 : left ≤ 1048576) (ha : okD BigN TEntry x) : SzP left (l_szEntry_m N x.1 x.2.1 x.2.2 left) (okD Sm TEntry x) := by
  unfold l_szEntry_m
  exact (SzP.len2 (ha.1) h0 h1 (fun r0 s0 => SzP.len2 (ha.2.1) r0 s0 (fun r1 s1 => SzP.then2 s1 (szPostS_spec N hM x.2.2 _ r1 s1 ha.2.2) (fun _ r2 s2 => SzP.ret r2)))).imp fun q => ⟨q.1, q.2.1, q.2.2.1⟩
theorem eqEntryS_spec (N : Nat) (hM : Sm < N) (hN : N ≤ 1099511627776) (a b : List (EEntry)) (h : okD Sm (.sl TEntry) a) : l_eqEntryS_m N a b = some (decide (a = b)) :=
  eqLoop_spec (fun (e e2 : EEntry) => l_eqEntry_m N e.1 e.2.1 e.2.2 e2.1 e2.2.1 e2.2.2) N a b (Nat.lt_of_le_of_lt h.1 hM) hN fun x hx y => eqEntry_spec N hM hN x y (h.2 x hx)
theorem toEntryS_spec (N : Nat) (hM : Sm < N) (hN : N ≤ 1099511627776) (a : List (EEntry)) (h : okD Sm (.sl TEntry) a) : l_toEntryS_m N a = some a :=
  toLoop_spec (fun (e : EEntry) => l_toEntry_m N e.1 e.2.1 e.2.2) (([] : List UInt8), ([] : List UInt8), ([] : List ((Int) × (List (Int))))) 56 N a (Nat.lt_of_le_of_lt h.1 hM) hN (by have : List.length a ≤ 1048576 := h.1; omega) fun x hx => toEntry_spec N hM hN x (h.2 x hx)
theorem szEntryS_spec (N : Nat) (hM : Sm < N) (a : List (EEntry)) (left : Int) (h0 : 0 ≤ left) (h1 : left ≤ 1048576) (ha : okD BigN (.sl TEntry) a) : SzP left (l_szEntryS_m N a left) (okD Sm (.sl TEntry) a) :=
  szLoop_spec (fun (e : EEntry) l => l_szEntry_m N e.1 e.2.1 e.2.2 l) N hM (okD Sm TEntry) a left ha.1 h0 h1 fun x hx l hl0 hl1 => szEntry_spec N hM x l hl0 hl1 (ha.2 x hx)
abbrev TSeg : Tp := .pair (.sl TDoc) (.sl TEntry)
abbrev ESeg : Type := (List (EDoc)) × (List (EEntry))
instance decSeg : DecidableEq (ESeg) := inferInstance
theorem eqSeg_spec (N : Nat) (hM : Sm < N) (hN : N ≤ 1099511627776) (x y : ESeg) (h : okD Sm TSeg x) : l_eqSeg_m N x.1 x.2 y.1 y.2 = some (decide (x = y)) := by
  obtain ⟨x0, x1⟩ := x
  obtain ⟨y0, y1⟩ := y
  unfold l_eqSeg_m
  rw [eqDocS_spec N hM hN x0 y0 h.1, Option.bind_some]
  rw [eqEntryS_spec N hM hN x1 y1 h.2, Option.bind_some]
  clear h
  by_cases h0 : x0 = y0 <;> by_cases h1 : x1 = y1 <;> simp [h0, h1]
theorem toSeg_spec (N : Nat) (hM : Sm < N) (hN : N ≤ 1099511627776) (x : ESeg) (h : okD Sm TSeg x) : l_toSeg_m N x.1 x.2 = some x := by
  unfold l_toSeg_m
  rw [toDocS_spec N hM hN x.1 h.1, Option.bind_some, toEntryS_spec N hM hN x.2 h.2, Option.bind_some]
theorem szSeg_spec (N : Nat) (hM : Sm < N) (x : ESeg) (left : Int) (h0 : 0 ≤ left) (h1 : left ≤ 1048576) (ha : okD BigN TSeg x) : SzP left (l_szSeg_m N x.1 x.2 left) (okD Sm TSeg x) := by
  unfold l_szSeg_m
  exact (SzP.then2 h1 (szDocS_spec N hM x.1 _ h0 h1 ha.1) (fun _ r0 s0 => SzP.then2 s0 (szEntryS_spec N hM x.2 _ r0 s0 ha.2) (fun _ r1 s1 => SzP.ret r1))).imp fun q => ⟨q.1, q.2.1⟩
end Go.Proofs.YtcjbjmbialienaaGreat
