/- The engine, first part: codes of values, what they are in Lean, what they are in cells; abstract values, states and effects. -/
import Derived.Test.YtcjbjmbialienaaGreatDoorBase
set_option linter.unusedSimpArgs false
set_option linter.unusedVariables false
namespace Go.Proofs.YtcjbjmbialienaaGreatDoor
open Go.RowKit
inductive DQ where
 | mk (kind : Int) (field : List UInt8) (words : List (List UInt8)) (from' to' : Int) (kids : List DQ)
inductive Tp where
 | bool
 | int (k : IntKind)
 | str
 | unit
 | pair (a b : Tp)
 | sl (r : Tp)
 | opt (r : Tp)
 | q
 deriving DecidableEq
@[reducible] def Tp.D : Tp → Type
 | .bool => Bool
 | .int _ => Int
 | .str => List UInt8
 | .unit => Unit
 | .pair a b => a.D × b.D
 | .sl r => List r.D
 | .opt r => Option r.D
 | .q => DQ
def Tp.w : Tp → Nat
 | .unit => 0
 | .pair a b => a.w + b.w
 | .q => 6
 | _ => 1
def Tp.flatB : Tp → Bool
 | .pair a b => a.flatB && b.flatB
 | .sl _ => false
 | .opt _ => false
 | .q => false
 | _ => true
inductive PV where
 | bool (b : Bool)
 | int (k : IntKind) (n : Int)
 | str (s : ByteArray)
 | sl (rows : List (List PV))
 | opt (row : Option (List PV))
def PV.flat : PV → Prop
 | .sl rows => rows = []
 | .opt _ => False
 | _ => True
def bytes (l : List UInt8) : ByteArray := ⟨l.toArray⟩
mutual
def encQ : DQ → List PV
 | .mk k f ws a b kids => [.int .i64 k, .str (bytes f), .sl (ws.map fun w => [.str (bytes w)]), .int .i64 a, .int .i64 b, .sl (encQs kids)]
def encQs : List DQ → List (List PV)
 | [] => []
 | x :: xs => encQ x :: encQs xs
end
def enc : (t : Tp) → t.D → List PV
 | .bool, b => [.bool b]
 | .int k, n => [.int k n]
 | .str, s => [.str (bytes s)]
 | .unit, _ => []
 | .pair a b, x => enc a x.1 ++ enc b x.2
 | .sl r, xs => [.sl (xs.map (enc r))]
 | .opt r, x => [.opt (x.map (enc r))]
 | .q, x => encQ x
def Tp.eqB : (t : Tp) → t.D → t.D → Bool
 | .bool, a, b => a == b
 | .int _, a, b => decide (a = b)
 | .str, a, b => decide (a = b)
 | .unit, _, _ => true
 | .pair a b, x, y => a.eqB x.1 y.1 && b.eqB x.2 y.2
 | .sl _, _, _ => false
 | .opt _, _, _ => false
 | .q, _, _ => false
def PV.isLit : PV → Bool
 | .sl _ => false
 | .opt _ => false
 | _ => true
def litOf : PV → Value
 | .bool b => .bool b
 | .int k n => .int k n
 | .str s => .string s
 | _ => undef
inductive AV where
 | dead
 | pv (t : Tp) (x : t.D)
 | nils
 | nilp
 | agg (cs : List AV)
 | tup (cs : List AV)
 | box (k o : Nat)
 | ptr (t : Tp) (x : t.D) (o : Nat)
 | own (n : Nat) (t : Tp) (xs : List t.D)
 | mtk (n : Nat)
 | mptr (n i o : Nat)
 | gmap (g : Nat)
 | clo (f : FuncId) (cs : List AV)
inductive GF where
 | row (t : Tp) (x : t.D)
 | map (kt vt : Tp) (agg : Bool) (es : List (kt.D × vt.D))
def DQ.kind : DQ → Int
 | .mk k _ _ _ _ _ => k
def DQ.field : DQ → List UInt8
 | .mk _ f _ _ _ _ => f
def DQ.words : DQ → List (List UInt8)
 | .mk _ _ ws _ _ _ => ws
def DQ.lo : DQ → Int
 | .mk _ _ _ a _ _ => a
def DQ.hi : DQ → Int
 | .mk _ _ _ _ b _ => b
def DQ.kids : DQ → List DQ
 | .mk _ _ _ _ _ l => l
def jsv (x : DQ) : List AV := [.pv (.int .i64) x.kind, .pv .str x.field, .pv (.sl .str) x.words, .pv (.int .i64) x.lo, .pv (.int .i64) x.hi, .pv (.sl .q) x.kids]
def cellsOf : (t : Tp) → t.D → List AV
 | .unit, _ => []
 | .pair a b, x => cellsOf a x.1 ++ cellsOf b x.2
 | .q, x => jsv x
 | .bool, x => [.pv .bool x]
 | .int k, x => [.pv (.int k) x]
 | .str, x => [.pv .str x]
 | .sl r, x => [.pv (.sl r) x]
 | .opt r, x => [.pv (.opt r) x]
def AV.as (t : Tp) : AV → Option t.D
 | .pv t' x => if h : t' = t then some (h ▸ x) else none
 | .own _ r xs => if h : Tp.sl r = t then some (h ▸ (show (Tp.sl r).D from xs)) else none
 | .nils => match t with
  | .sl r => some ([] : List r.D)
  | _ => none
 | .nilp => match t with
  | .opt r => some (none : Option r.D)
  | _ => none
 | .ptr r x o => if h : Tp.opt r = t ∧ o = 0 then some (h.1 ▸ (show (Tp.opt r).D from some x)) else none
 | _ => none
def mkQ : List AV → Option DQ
 | [k, f, ws, a, b, kids] => match k.as (.int .i64), f.as .str, ws.as (.sl .str), a.as (.int .i64), b.as (.int .i64), kids.as (.sl .q) with
  | some k, some f, some ws, some a, some b, some kids => some (.mk k f ws a b kids)
  | _, _, _, _, _, _ => none
 | _ => none
def one (t : Tp) : List AV → Option t.D
 | [c] => c.as t
 | _ => none
def mkRow : (t : Tp) → List AV → Option t.D
 | .unit, cs => match cs with
  | [] => some ()
  | _ => none
 | .pair a b, cs => match mkRow a (cs.take a.w), mkRow b (cs.drop a.w) with
  | some x, some y => some (x, y)
  | _, _ => none
 | .q, cs => mkQ cs
 | .bool, cs => one .bool cs
 | .int k, cs => one (.int k) cs
 | .str, cs => one .str cs
 | .sl r, cs => one (.sl r) cs
 | .opt r, cs => one (.opt r) cs
structure Tok where
 t : Tp
 xs : List t.D
 e : TypeId
 wr : Bool
 deep : Bool
 tr : Option (List (Nat × Nat × Nat))
def Tok.fz0 (tk : Tok) : Tok := { tk with wr := false, tr := none }
def Tok.whole (tk : Tok) : Bool := match tk.tr with
 | none => true
 | some [] => true
 | _ => false
def Tok.fz (tk : Tok) : Tok := bif tk.whole then tk.fz0 else tk
theorem Tok.fz_eq {tk : Tok} (h : tk.whole = true) : tk.fz = tk.fz0 := by unfold Tok.fz; rw [h]; rfl
theorem Tok.fz_t (tk : Tok) : tk.fz.t = tk.t := by unfold Tok.fz; cases tk.whole <;> rfl
theorem Tok.fz_e (tk : Tok) : tk.fz.e = tk.e := by unfold Tok.fz; cases tk.whole <;> rfl
theorem Tok.fz_deep (tk : Tok) : tk.fz.deep = tk.deep := by unfold Tok.fz; cases tk.whole <;> rfl
theorem Tok.fz_row (tk : Tok) : (⟨tk.fz.t, tk.fz.xs⟩ : (t : Tp) × List t.D) = ⟨tk.t, tk.xs⟩ := by unfold Tok.fz; cases tk.whole <;> rfl
theorem Tok.whole_nil {tk : Tok} (h : tk.whole = true) {hs : List (Nat × Nat × Nat)} (ht : tk.tr = some hs) : hs = [] := by
 unfold Tok.whole at h
 rw [ht] at h
 cases hs with
 | nil => rfl
 | cons _ _ => cases h
inductive TS where
 | spent
 | live (tk : Tok)
structure BS where
 fz : Bool
 cs : List AV
structure Eff where
 val : AV
 box : List (Nat × BS)
 tok : List (Nat × Option TS)
structure FP where
 rb : List Nat
 wb : List Nat
 rt : List Nat
 wt : List Nat
def mapName (k : Nat) : Bool := Nat.ble 1000000000 k
def getA : List AV → Nat → AV
 | [], _ => .dead
 | x :: _, 0 => x
 | _ :: l, n + 1 => getA l n
def setA : List AV → Nat → AV → List AV
 | [], _, _ => []
 | _ :: l, 0, v => v :: l
 | x :: l, n + 1, v => x :: setA l n v
def lookB : List (Nat × BS) → Nat → Option BS
 | [], _ => none
 | (k, b) :: l, j => if j = k then some b else lookB l j
def setB : List (Nat × BS) → Nat → BS → List (Nat × BS)
 | [], k, b => [(k, b)]
 | (j, c) :: l, k, b => if j = k then (k, b) :: l else (j, c) :: setB l k b
def lookT : List (Nat × Option TS) → Nat → Option TS
 | [], _ => none
 | (k, x) :: l, j => if j = k then x else lookT l j
def setT : List (Nat × Option TS) → Nat → Option TS → List (Nat × Option TS)
 | [], k, x => [(k, x)]
 | (j, y) :: l, k, x => if j = k then (k, x) :: l else (j, y) :: setT l k x
structure LSt where
 L : List AV
 B : List (Nat × BS)
 T : List (Nat × Option TS)
def LSt.app (s : LSt) (d : Option Nat) (e : Eff) : LSt :=
 ⟨match d with | some d => setA s.L d e.val | none => s.L, e.box.foldl (fun B x => setB B x.1 x.2) s.B, e.tok.foldl (fun T x => setT T x.1 x.2) s.T⟩
end Go.Proofs.YtcjbjmbialienaaGreatDoor
