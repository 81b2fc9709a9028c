/- The engine, seventh part: elements, lengths, parts of texts and slices. -/
import Derived.Test.YtcjbjmbialienaaGreatDoorK6
set_option linter.unusedSimpArgs false
set_option linter.unusedVariables false
namespace Go.Proofs.YtcjbjmbialienaaGreatDoor
open Go.RowKit
section
variable {E : Env} {o : Oper} {s : LSt} {e : Eff} {fp : FP}
theorem jhj {α : Type} {xs : List α} {n : Int} {x : α} (h : idx xs n = some x) : 0 ≤ n ∧ xs[n.toNat]? = some x := by
 unfold idx at h
 split at h
 ·exact ⟨‹_›, h⟩
 ·cases h
theorem jhh {T e' : TypeId} {x i : Operand} (ho : o.op = .indexAddr T x i) {m : Nat} {ie : TypeInfo} (hu : E.P.underlying T = some (.slice e')) (hie : E.P.info? e' = some ie) (hsz : ie.size = m) {a : Act} {w : World} {b q len cap : Nat} {k : IntKind} {n : Int} (hv : a.eval x = .slice (some ⟨b, q, none⟩) len cap) (hk : a.eval i = .int k n) (h0 : 0 ≤ n) (hn : n < len) :
  (execOp a.eval o).run E.P w = .ok (.value (.pointer (some ⟨b, q + n.toNat * m, none⟩))) w := by
 have hszr : (sizeOf e').run E.P w = .ok m w := by simp [sizeOf, typeInfo, hie, hsz]
 simp [execOp, ho, Instr.indexAt, run_underlying hu, hv, hk, asIntOf, h0, hn, hszr, add_ptr]
theorem jkq (hE : EnvOk E) (T : TypeId) (x i : Operand) (ho : o.op = .indexAddr T x i) (h : (opRD E o.op o.dst s.ev).R s [] [] e fp) : Sim E o s e := by
 rw [ho] at h
 simp only [opRD] at h
 split at h
 case h_2 => exact h.elim
 rename_i ty hty
 have hT := hE.ty T ty hty
 split at h
 case h_2 => exact h.elim
 rename_i e' r by' he
 obtain ⟨hu, hpos, ie, z, hie, hsz, _⟩ := hT.elem _ _ _ he
 obtain ⟨k, n, hi, h⟩ := jaP h
 split at h
 ·rename_i t hx
  simp only [RD.R] at h
  split at h
  case h_2 => exact h.elim
  rename_i tk htk
  obtain ⟨⟨h0, hn⟩, h⟩ := h
  split at h
  case isFalse => exact h.elim
  rename_i et
  cases val_R h
  refine sim_look fun R β τ F S a w hM hev => ?_
  have h1 := hev x; rw [hx] at h1
  obtain ⟨g1, g2, g3⟩ := v3_mtk h1
  have g3 := g3 tk htk
  obtain ⟨_, hk, _⟩ := hM.toks t tk htk
  rcases hk with ⟨ev, exs⟩ | ⟨b, cap, vs, _, ev, hF, hg, hz, hnc, hm, hst, hwr, hc⟩
  ·rw [exs] at hn; simp at hn; omega
  ·rw [show (s.ctx w S β τ).τ t = τ t from rfl, ev] at g3
   refine ⟨_, jhh ho hu hie hsz g3 (jdq hi hev) h0 (by omega), rfl, g2, fun tk' htk' => ?_⟩
   rw [show (s.ctx w S β τ).tok t = lookT s.T t from rfl, htk] at htk'
   cases htk'
   refine ⟨b, _, cap, ev, by omega, ?_⟩
   rw [et]; simp
 ·rename_i hne
  unfold withRows at h
  split at h
  ·rename_i n' hx2; exact absurd hx2 (hne n')
  ·split at h
   case h_2 => exact h.elim
   rename_i xs hxs
   obtain ⟨y, hy, h⟩ := h
   cases val_R h
   obtain ⟨h0, hy⟩ := jhj hy
   refine sim_val fun c a w hw hev => ?_
   have hr := as_sl hxs (hev x)
   obtain ⟨ad, cap, b, q, m, hv, hcap, had, hm, hcells⟩ := hr.opened
   have hlt : n.toNat < xs.length := (List.getElem?_eq_some_iff.1 hy).1
   have hrow : (xs.map (enc r))[n.toNat]? = some (enc r y) := by simp [hy]
   have ead := had (by intro e; rw [List.map_eq_nil_iff] at e; rw [e] at hlt; simp at hlt)
   have em : m = r.w := by rw [← hm _ _ hrow, enc_len]
   rw [ead, List.length_map] at hv
   refine ⟨_, jhh ho hu hie hsz hv (jdq hi hev) h0 (by omega), b, q + n.toNat * r.w, rfl, ?_⟩
   rw [← em]; exact hcells _ _ hrow
theorem jpc (hE : EnvOk E) (T : TypeId) (x i : Operand) (ho : o.op = .index T x i) (h : (opRD E o.op o.dst s.ev).R s [] [] e fp) : Sim E o s e := by
 rw [ho] at h
 simp only [opRD] at h
 split at h
 case h_2 => exact h.elim
 rename_i ty hty
 have hT := hE.ty T ty hty
 obtain ⟨k, n, hi, h⟩ := jaP h
 split at h
 case h_2 => exact h.elim
 rename_i b hx
 split at h
 case isFalse => exact h.elim
 rename_i hs
 obtain ⟨u, hu, h⟩ := h
 cases val_R h
 obtain ⟨h0, hu⟩ := jhj hu
 refine sim_val fun c a w hw hev => ⟨.int .u8 u.toNat, ?_, mk_int c _ _⟩
 have hb : a.eval x = .string (bytes b) := v3_str (hx ▸ hev x)
 have hk : a.eval i = .int k n := jdq hi hev
 have hb' : (bytes b)[n.toNat]? = some u := by
  have hlt : n.toNat < b.length := (List.getElem?_eq_some_iff.1 hu).1
  rw [getElem?_pos (bytes b) n.toNat (by rw [bytes_size]; exact hlt)]
  rw [List.getElem?_eq_getElem hlt] at hu
  rw [← Option.some.inj hu]; rfl
 simp [execOp, ho, Instr.index, run_underlying (hT.str hs), hb, hk, asIntOf, h0, hb']
theorem jlS (xs : List Int) : xs.foldl (fun r n => r.push (UInt8.ofNat n.toNat)) ByteArray.empty = bytes (bytesOf xs) := by
 have key : ∀ (xs : List Int) (s : ByteArray), xs.foldl (fun r n => r.push (UInt8.ofNat n.toNat)) s = ⟨s.data ++ (bytesOf xs).toArray⟩ := by
  intro xs
  induction xs with
  | nil => intro s; simp [bytesOf]
  | cons x xs ih =>
   intro s
   rw [List.foldl_cons, ih]
   congr 1
   simp [bytesOf, ByteArray.push]
 rw [key]
 simp [bytes]
theorem jpg (hE : EnvOk E) (S_1 T : TypeId) (x : Operand) (ho : o.op = .convert S_1 T x) (h : (opRD E o.op o.dst s.ev).R s [] [] e fp) : Sim E o s e := by
 rw [ho] at h
 simp only [opRD] at h
 split at h
 case h_2 => exact h.elim
 rename_i tyS ty hS hT
 obtain ⟨dS, hdS, _⟩ := (hE.ty S_1 tyS hS).desc
 have hTy := hE.ty T ty hT
 split at h
 ·rename_i k n hx
  split at h
  case h_2 => exact h.elim
  rename_i k' hk
  cases val_R h
  refine sim_val fun cx a w hw hev => ⟨.int k' (k'.wrap n), ?_, mk_int cx _ _⟩
  have hv : a.eval x = .int k n := v3_int (hx ▸ hev x)
  simp [execOp, ho, Go.convert, run_underlying hdS, run_underlying (hTy.int _ hk), hv, Conv.intToInt]
 ·rename_i b hx
  split at h
  case isFalse => exact h.elim
  rename_i hs
  cases val_R h
  refine sim_val fun cx a w hw hev => ?_
  have hv : a.eval x = .string (bytes b) := v3_str (hx ▸ hev x)
  refine ⟨.string (bytes b), ?_, by have h1 := hev x; rw [hx, hv] at h1; exact h1⟩
  simp [execOp, ho, Go.convert, run_underlying hdS, run_underlying (hTy.str hs), hv]
 ·split at h
  case h_2 => exact h.elim
  rename_i e' by' he
  split at h
  case h_2 => exact h.elim
  rename_i hu8
  split at h
  case isFalse => exact h.elim
  rename_i hs
  obtain ⟨tye, htye, hint⟩ := Option.bind_eq_some_iff.1 hu8
  have hue := (hE.ty e' tye htye).int _ hint
  obtain ⟨huS, _⟩ := (hE.ty S_1 tyS hS).elem _ _ _ he
  obtain ⟨xs, rt', h, hel⟩ := withRows_R h
  cases val_R h
  refine sim_look fun R β τ F S a w hM hev => ⟨.string (bytes (bytesOf xs)), ?_, mk_str _ _⟩
  obtain ⟨ad, cap, b, q, hv, hcap, had, hcell⟩ := (hel R β τ F S a w hM hev).ex
  have main : (Conv.bytesToString (.slice ad xs.length cap)).run E.P w = .ok (.string (bytes (bytesOf xs))) w := by
   cases ad with
   | none =>
    have : xs = [] := by
     cases xs with
     | nil => rfl
     | cons y ys => exact absurd (had (by simp)) (by simp)
    subst this
    rfl
   | some ad =>
    rw [run_bytesToString w ad xs.length cap xs ?_]
    ·exact congrArg (fun z => Result.ok (Value.string z) w) (jlS xs)
    ·have hl : xs.length = (xs.map (Value.int .u8)).length := by simp
     rw [hl]
     refine run_loadCells_list w ad _ (fun j v hj => ?_)
     rw [List.getElem?_map] at hj
     obtain ⟨y, hy, rfl⟩ := Option.map_eq_some_iff.1 hj
     have hne : xs ≠ [] := by intro e; rw [e] at hy; simp at hy
     cases had hne
     obtain ⟨u, h1, h2⟩ := hcell j 0 y (.int .u8 y) hy rfl
     cases h2
     rw [add_ptr, show q + j = q + j * Tp.w (.int .u8) + 0 from by simp [Tp.w]]
     exact h1
  simp only [execOp, ho, hv, Sem.run_bind, run_convert_bytes_string w S_1 T e' ad xs.length cap huS hue (hTy.str hs), main, Result.andThen_ok, Sem.run_pure]
theorem jlF {c : Ctx} {x : AV} {v : Value} (hx : x.leaf = true) (h : V3 c x v) : V0 c x v := by
 cases x <;> first | exact h | cases hx
theorem jqH (f : FuncId) (first captured : Array Operand) (ho : o.op = .makeFunc (.func f) first captured) (h : (opRD E o.op o.dst s.ev).R s [] [] e fp) : Sim E o s e := by
 rw [ho] at h
 simp only [opRD] at h
 split at h
 case h_2 => exact h.elim
 rename_i hf
 split at h
 case isFalse => exact h.elim
 rename_i hl
 cases val_R h
 refine sim_val fun cx a w hw hev => ⟨.func (.func f) #[] (captured.toList.map a.eval).toArray, ?_, captured.toList.map a.eval, rfl, ?_⟩
 ·have e1 : first = #[] := by apply Array.ext'; simpa using hf
  have e2 : captured.map a.eval = (captured.toList.map a.eval).toArray := by apply Array.ext'; simp
  simp [execOp, ho, Instr.makeFunc, e1]
  exact e2
 ·generalize captured.toList = l at hl
  induction l with
  | nil => exact True.intro
  | cons y l ih =>
   simp only [List.map_cons, List.all_cons, Bool.and_eq_true] at hl
   exact ⟨jlF hl.1 (hev y), ih hl.2⟩
theorem TokOk.len {Fr : Nat → Prop} {w : World} {S : Stab} {tk : Tok} {v : Value} {F : Nat → Prop} (h : TokOk Fr w S tk v F) : ∃ ad cap, v = .slice ad tk.xs.length cap := by
 rcases h.2.1 with ⟨e1, e2⟩ | ⟨b, cap, vs, T, e, _⟩
 ·exact ⟨none, 0, by rw [e1, e2]; rfl⟩
 ·exact ⟨_, cap, e⟩
theorem jqV {x : Operand} {r : Tp} {rb rt : List Nat} (h : (lenRD r (s.ev x)).R s rb rt e fp) : ∃ n : Nat, e = ⟨.pv (.int .i64) (n : Int), [], []⟩ ∧ ∀ R β τ F S (a : Act) w, Mem R (lookB s.B) (lookT s.T) β τ F S w → (∀ y, V3 (s.ctx w S β τ) (s.ev y) (a.eval y)) → ∃ ad cap, a.eval x = .slice ad n cap := by
 unfold lenRD at h
 split at h
 ·rename_i n hx
  simp only [RD.R] at h
  split at h
  ·rename_i tk htk
   split at h
   ·rename_i e1
    refine ⟨tk.xs.length, val_R h, fun R β τ F S a w hM hev => ?_⟩
    have h1 := hev x; rw [hx] at h1
    obtain ⟨g1, g2, g3⟩ := v3_mtk h1
    rw [g3 tk htk]
    exact (hM.toks n tk htk).len
   ·exact h.elim
  ·exact h.elim
 ·obtain ⟨xs, rt', h, hel⟩ := withRows_R h
  refine ⟨xs.length, val_R h, fun R β τ F S a w hM hev => ?_⟩
  obtain ⟨ad, cap, b, q, hv, _⟩ := (hel R β τ F S a w hM hev).ex
  exact ⟨ad, cap, hv⟩
theorem jqu (hE : EnvOk E) (c : Call) (ho : o.op = .call c) (hc : c.callee = .builtin .len) (h : (opRD E o.op o.dst s.ev).R s [] [] e fp) : Sim E o s e := by
 rw [ho] at h
 simp only [opRD, hc] at h
 split at h
 case h_2 => exact h.elim
 rename_i x T hx hT
 split at h
 case h_2 => exact h.elim
 rename_i ty hty
 have hTy := hE.ty T ty hty
 have ea : c.args = #[x] := by apply Array.ext'; simpa using hx
 split at h
 ·rename_i b hb
  split at h
  case isFalse => exact h.elim
  rename_i hs
  cases val_R h
  refine sim_val fun cx a w hw hev => ⟨.int .i64 b.length, ?_, mk_int cx _ _⟩
  have hv : a.eval x = .string (bytes b) := v3_str (hb ▸ hev x)
  simp [execOp, ho, resolve, hc, invoke, builtin, Builtin.len_, hT, ea, run_underlying (hTy.str hs), hv, goInt, bytes_size]
 ·split at h
  case h_2 => exact h.elim
  rename_i e' r by' he
  obtain ⟨hu, _⟩ := hTy.elem _ _ _ he
  obtain ⟨n, rfl, hel⟩ := jqV h
  refine sim_look fun R β τ F S a w hM hev => ⟨.int .i64 n, ?_, mk_int _ _ _⟩
  obtain ⟨ad, cap, hv⟩ := hel R β τ F S a w hM hev
  simp [execOp, ho, resolve, hc, invoke, builtin, Builtin.len_, hT, ea, run_underlying hu, hv, goInt]
theorem jfH (c : Call) (ho : o.op = .call c) (mx : Bool) (hc : c.callee = .builtin (if mx then .max else .min)) (h : (opRD E o.op o.dst s.ev).R s [] [] e fp) : Sim E o s e := by
 rw [ho] at h
 have key : ∀ x y k k' p q, c.args.toList = [x, y] → s.ev x = .pv (.int k) p → s.ev y = .pv (.int k') q → Sim E o s ⟨.pv (.int k) (if mx then (if q > p then q else p) else (if q < p then q else p)), [], []⟩ := fun x y k k' p q hx h1 h2 =>
  sim_val fun cx a w hw hev => by
   have ea : c.args = #[x, y] := by apply Array.ext'; simpa using hx
   have v1 : a.eval x = .int k p := v3_int (h1 ▸ hev x)
   have v2 : a.eval y = .int k' q := v3_int (h2 ▸ hev y)
   refine ⟨_, ?_, mk_int cx _ _⟩
   cases mx <;> simp at hc <;> simp [execOp, ho, resolve, hc, invoke, builtin, Builtin.min_, Builtin.max_, Builtin.min2, Builtin.max2, ea, v1, v2]
 cases mx with
 | false =>
  simp only [opRD, show c.callee = .builtin .min from hc] at h
  split at h
  case h_3 => exact h.elim
  ·rename_i x y hx
   split at h
   case h_2 => exact h.elim
   rename_i k p h1
   split at h
   case h_2 => exact h.elim
   rename_i k' q h2
   cases val_R h
   exact key x y k k' p q hx h1 h2
  ·rename_i x y z hx
   split at h
   case h_2 => exact h.elim
   rename_i k p h1
   split at h
   case h_2 => exact h.elim
   rename_i k' q h2
   split at h
   case h_2 => exact h.elim
   rename_i k2 r h3
   cases val_R h
   refine sim_val fun cx a w hw hev => ?_
   have ea : c.args = #[x, y, z] := by apply Array.ext'; simpa using hx
   have v1 : a.eval x = .int k p := v3_int (h1 ▸ hev x)
   have v2 : a.eval y = .int k' q := v3_int (h2 ▸ hev y)
   have v3 : a.eval z = .int k2 r := v3_int (h3 ▸ hev z)
   refine ⟨_, ?_, mk_int cx _ _⟩
   simp at hc
   simp [execOp, ho, resolve, hc, invoke, builtin, Builtin.min_, Builtin.min2, ea, v1, v2, v3]
 | true =>
  simp only [opRD, show c.callee = .builtin .max from hc] at h
  split at h
  case h_2 => exact h.elim
  rename_i x y hx
  split at h
  case h_2 => exact h.elim
  rename_i k p h1
  split at h
  case h_2 => exact h.elim
  rename_i k' q h2
  cases val_R h
  exact key x y k k' p q hx h1 h2
def jbg (a : Act) (d : Int) (x : Option Operand) (n : Int) : Prop := (x = none ∧ n = d) ∨ ∃ y k, x = some y ∧ a.eval y = .int k n
theorem jav {d : Int} {x : Option Operand} {f : Int → RD} {rb rt : List Nat} (h : (optInt d (x.map s.ev) f).R s rb rt e fp) : ∃ n, (f n).R s rb rt e fp ∧ ∀ c (a : Act), (∀ y, V3 c (s.ev y) (a.eval y)) → jbg a d x n := by
 cases x with
 | none => exact ⟨d, h, fun c a hev => .inl ⟨rfl, rfl⟩⟩
 | some y =>
  obtain ⟨k, n, hy, h⟩ := jaP (show (withInt (s.ev y) f).R s rb rt e fp from h)
  exact ⟨n, h, fun c a hev => .inr ⟨y, k, rfl, v3_int (hy ▸ hev y)⟩⟩
theorem jeB {P : Program} (w : World) (a : Act) (isSlice : Bool) (len cap : Nat) (lo hi : Option Operand) (l h : Int) (hl : jbg a 0 lo l) (hh : jbg a len hi h) (h0 : 0 ≤ l) (h1 : l ≤ h) (h2 : h ≤ (len : Int)) (h3 : len ≤ cap) :
  (Instr.sliceBounds isSlice len cap (lo.map a.eval) (hi.map a.eval) none).run P w = .ok (l.toNat, h.toNat, cap) w := by
 have hc : h ≤ (cap : Int) := by omega
 have e : ((h.toNat : Nat) : Int) = h := by omega
 have hb : ∀ code, (match (hi.map a.eval) with | some v => Instr.sliceBound v cap code | none => pure len : Sem Nat).run P w = .ok h.toNat w := fun code => by
  rcases hh with ⟨rfl, rfl⟩ | ⟨y, k, rfl, hy⟩
  ·simp
  ·simp [hy, run_sliceBound (P := P) w k h cap code (by omega) hc]
 have hb2 : ∀ code, (match (lo.map a.eval) with | some v => Instr.sliceBound v h.toNat code | none => pure 0 : Sem Nat).run P w = .ok l.toNat w := fun code => by
  rcases hl with ⟨rfl, rfl⟩ | ⟨y, k, rfl, hy⟩
  ·simp
  ·simp [hy, run_sliceBound (P := P) w k l h.toNat code h0 (by omega)]
 unfold Instr.sliceBounds
 simp only [Sem.run_bind, Sem.run_pure, Result.andThen_ok, Option.isSome_none, Bool.false_eq_true, if_false]
 rcases hh with ⟨rfl, rfl⟩ | ⟨y, k, rfl, hy⟩
 ·have := hb2 .sliceB
  simp only [Option.map_none, Sem.run_pure, Result.andThen_ok, Int.toNat_natCast] at this ⊢
  rcases hl with ⟨rfl, rfl⟩ | ⟨y, k, rfl, hy⟩ <;> simp_all
 ·have h4 := hb (if isSlice then .sliceAcap else .sliceAlen)
  have := hb2 .sliceB
  simp only [Option.map_some] at h4
  simp only [Option.map_some, h4, Result.andThen_ok]
  rcases hl with ⟨rfl, rfl⟩ | ⟨y, k, rfl, hy⟩ <;> simp_all
theorem jcc {α : Type} {xs ys : List α} {l h : Int} (hc : cut xs l h = some ys) : 0 ≤ l ∧ l ≤ h ∧ h ≤ xs.length ∧ ys = (xs.take h.toNat).drop l.toNat := by
 unfold cut at hc
 split at hc
 ·rename_i hh; cases hc; exact ⟨hh.1, hh.2.1, hh.2.2, rfl⟩
 ·cases hc
def jC (a : Option Addr) (cap l m : Nat) : Option Addr := if cap = l then a else a.map (·.add (l * m))
theorem jdh (T : TypeId) (x : Operand) (lo hi : Option Operand) (ho : o.op = .slice T x lo hi none) (e' : TypeId) (i : TypeInfo) (hT : E.P.underlying T = some (.slice e')) (hi' : E.P.info? e' = some i) (a : Act) (w : World) (ad : Option Addr) (len cap : Nat) (hv : a.eval x = .slice ad len cap) (l h : Int)
  (hl : jbg a 0 lo l) (hh : jbg a len hi h) (h0 : 0 ≤ l) (h1 : l ≤ h) (h2 : h ≤ (len : Int)) (h3 : len ≤ cap) : (execOp a.eval o).run E.P w = .ok (.value (.slice (jC ad cap l.toNat i.size) (h.toNat - l.toNat) (cap - l.toNat))) w := by
 have hr := jeB (P := E.P) w a true len cap lo hi l h hl hh h0 h1 h2 h3
 simp only [execOp, ho, Instr.sliceAt, Sem.run_bind, run_underlying hT, Result.andThen_ok, Instr.slice, hv, Option.map_none, hr, sizeOf, typeInfo, run_program, hi', Sem.run_pure, jC]
theorem jeW {w : World} {S : Stab} {ad : Option Addr} {cap : Nat} {r : Tp} {xs ys : List r.D} (hr : Rep w S (.slice ad xs.length cap) (.sl (xs.map (enc r)))) (l h : Int) (hc : cut xs l h = some ys) : Rep w S (.slice (jC ad cap l.toNat r.w) (h.toNat - l.toNat) (cap - l.toNat)) (.sl (ys.map (enc r))) := by
 obtain ⟨h0, h1, h2, rfl⟩ := jcc hc
 obtain ⟨a, cap', b, q, m', hv, hcap, ha, hm', hcells⟩ := hr.opened
 rw [List.length_map] at hv
 cases hv
 have hlen : (((xs.take h.toNat).drop l.toNat).map (enc r)).length = h.toNat - l.toNat := by simp; omega
 rw [← hlen]
 rw [List.length_map] at hcap
 have getrow : ∀ {i : Nat} {row : List PV}, (((xs.take h.toNat).drop l.toNat).map (enc r))[i]? = some row → (xs.map (enc r))[l.toNat + i]? = some row ∧ l.toNat + i < h.toNat := fun {i row} hi => by
  rw [List.getElem?_map, List.getElem?_drop, List.getElem?_take] at hi
  split at hi
  ·rw [List.getElem?_map]; exact ⟨hi, ‹_›⟩
  ·simp at hi
 refine Rep.mk (b := b) (o := q + l.toNat * r.w) (m := r.w) (by rw [hlen]; omega) (fun hne => ?_) (fun i row hi => ?_) (fun i row hi => ?_)
 ·have hlt : l.toNat < h.toNat := by
   rw [← List.length_pos_iff, hlen] at hne; omega
  have := ha (by intro e; rw [List.map_eq_nil_iff] at e; rw [e] at h2; simp at h2; omega)
  rw [this]
  unfold jC
  rw [if_neg (by omega)]
  simp [add_ptr]
 ·obtain ⟨g1, _⟩ := getrow hi
  obtain ⟨y, _, rfl⟩ := List.mem_map.1 (List.mem_of_getElem? g1)
  rw [enc_len]
 ·obtain ⟨g1, _⟩ := getrow hi
  have em : m' = r.w := by
   rw [← hm' _ _ g1]
   obtain ⟨y, _, rfl⟩ := List.mem_map.1 (List.mem_of_getElem? g1)
   rw [enc_len]
  have := hcells _ _ g1
  rw [em] at this
  rw [show q + l.toNat * r.w + i * r.w = q + (l.toNat + i) * r.w from by rw [Nat.add_mul]; omega]
  exact this
end
end Go.Proofs.YtcjbjmbialienaaGreatDoor
