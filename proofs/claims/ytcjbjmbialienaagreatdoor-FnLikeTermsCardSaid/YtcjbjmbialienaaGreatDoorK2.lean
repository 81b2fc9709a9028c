/- The engine, second part: what operations do to the abstract machine, and how code is run in it. -/
import Derived.Test.YtcjbjmbialienaaGreatDoorKG
set_option linter.unusedSimpArgs false
set_option linter.unusedVariables false
namespace Go.Proofs.YtcjbjmbialienaaGreatDoor
open Go.RowKit
structure Ty where
 agg : Bool
 size : Nat
 zero : List AV
 elem : Option (TypeId × Tp × Nat)
 offs : List (Nat × Nat)
 str : Bool
 bool : Bool
 int : Option IntKind
 eqs : Option Tp
 mp : Option (TypeId × TypeId × Tp × Tp)
 ptr : Bool
 fts : List (TypeId × Nat)
 gm : Option (TypeId × TypeId × Tp × Tp × Bool)
inductive VS where
 | dead
 | pv (t : Tp)
 | nils
 | nilp
 | box (k o : Nat)
 | ptr (t : Tp)
 | own (n : Nat) (t : Tp) (e : TypeId) (deep : Bool)
 | mtk (n : Nat) (t : Tp) (e : TypeId) (deep : Bool)
 | tre (n : Nat) (t : Tp) (e : TypeId)
 | agg (l : List VS)
 | tup (l : List VS)
 | clo (f : FuncId) (l : List VS)
structure Sh where
 vals : List VS
 boxes : List (Nat × Bool × List VS)
def prodT : List Tp → Tp
 | [] => .unit
 | [t] => t
 | t :: u :: l => .pair t (prodT (u :: l))
mutual
def VS.codes : VS → List Tp
 | .pv t => [t]
 | .ptr t => [t]
 | .own _ t _ _ => [.sl t]
 | .mtk _ t _ _ => [.sl t]
 | .tre _ t _ => [.sl t]
 | .agg l => VS.codesL l
 | .tup l => VS.codesL l
 | .clo _ l => [prodT (VS.codesL l)]
 | _ => []
def VS.codesL : List VS → List Tp
 | [] => []
 | v :: l => v.codes ++ VS.codesL l
end
def boxCodes : List (Nat × Bool × List VS) → List Tp
 | [] => []
 | b :: l => VS.codesL b.2.2 ++ boxCodes l
def Sh.codes (s : Sh) : List Tp := VS.codesL s.vals ++ boxCodes s.boxes
@[reducible] def HD : List Tp → Type
 | [] => Unit
 | [t] => t.D
 | t :: u :: l => t.D × HD (u :: l)
abbrev Pay := (t : Tp) × t.D
def unpack : (l : List Tp) → HD l → List Pay
 | [], _ => []
 | [t], x => [⟨t, x⟩]
 | t :: u :: l, x => ⟨t, x.1⟩ :: unpack (u :: l) x.2
def pack : (l : List Tp) → List Pay → Option (HD l)
 | [], ps => match ps with
  | [] => some ()
  | _ => none
 | [t], ps => match ps with
  | [p] => if h : p.1 = t then some (h ▸ p.2) else none
  | _ => none
 | t :: u :: l, ps => match ps with
  | p :: ps => if h : p.1 = t then match pack (u :: l) ps with
    | some y => some (h ▸ p.2, y)
    | none => none
   else none
  | [] => none
def packP : List Pay → Pay
 | [] => ⟨.unit, ()⟩
 | [p] => p
 | p :: q :: l => ⟨.pair p.1 (packP (q :: l)).1, (p.2, (packP (q :: l)).2)⟩
def unpackP : Nat → Pay → List Pay
 | 0, _ => []
 | 1, p => [p]
 | n + 2, ⟨.pair a b, x⟩ => ⟨a, x.1⟩ :: unpackP (n + 1) ⟨b, x.2⟩
 | _ + 2, _ => []
theorem unpack_pack : ∀ l : List Pay, unpackP l.length (packP l) = l
 | [] => rfl
 | [p] => rfl
 | p :: q :: l => by
  show (⟨p.1, p.2⟩ : Pay) :: unpackP (l.length + 1) (packP (q :: l)) = _
  rw [show l.length + 1 = (q :: l).length from rfl, unpack_pack (q :: l)]
structure Acc where
 ps : List Pay
 rt : List (Nat × Option Nat)
 rb : List (Nat × Nat)
 fb : List Nat
 ft : List Nat
 mt : List Nat
 ub : List Nat
def lookR {α : Type} : List (Nat × α) → Nat → Option α
 | [], _ => none
 | (k, x) :: l, j => if j = k then some x else lookR l j
section
variable (B : List (Nat × BS)) (T : List (Nat × Option TS))
def bindBox (a : Acc) (k k' : Nat) : Option Acc := match lookR a.rb k with
 | some j => if j = k' then some a else none
 | none => if a.rb.any (fun x => x.2 == k') then none else some { a with rb := a.rb ++ [(k, k')] }
def bindTok (a : Acc) (n : Nat) (n' : Option Nat) (p : Pay) : Option Acc := match lookR a.rt n with
 | some _ => none
 | none => if n'.isSome && a.rt.any (fun x => x.2 == n') then none else some { a with rt := a.rt ++ [(n, n')], ps := a.ps ++ [p] }
mutual
def conv : VS → AV → Acc → Option Acc
 | .dead, _, a => some a
 | .pv t, x, a => match x with
  | .mtk n => match lookT T n with
   | some (.live tk) => if Tp.sl tk.t = t ∧ tk.whole = true then some { a with ps := a.ps ++ [⟨.sl tk.t, tk.xs⟩], ft := a.ft ++ [n] } else none
   | _ => none
  | x => match x.as t with
   | some y => some { a with ps := a.ps ++ [⟨t, y⟩] }
   | none => none
 | .nils, x, a => match x with
  | .nils => some a
  | _ => none
 | .nilp, x, a => match x with
  | .nilp => some a
  | _ => none
 | .box k o, x, a => match x with
  | .box k' o' => if o' = o then bindBox a k k' else none
  | _ => none
 | .ptr t, x, a => match x with
  | .ptr t' y o => match mkRow t (((cellsOf t' y).drop o).take t.w) with
   | some z => some { a with ps := a.ps ++ [⟨t, z⟩] }
   | none => none
  | .box k o => match lookB B k with
   | some b => match mkRow t ((b.cs.drop o).take t.w) with
    | some z => some { a with ps := a.ps ++ [⟨t, z⟩], fb := a.fb ++ [k] }
    | none => none
   | none => none
  | _ => none
 | .own n t e deep, x, a => match x with
  | .own n' t' xs => match lookT T n' with
   | some (.live tk) => if t' = t ∧ tk.e = e ∧ (deep = true → tk.deep = true) then bindTok a n (some n') ⟨.sl t', xs⟩ else none
   | _ => none
  | .mtk n' => match lookT T n' with
   | some (.live tk) => if tk.t = t ∧ tk.e = e ∧ (deep = true → tk.deep = true) ∧ tk.whole = true then (bindTok a n (some n') ⟨.sl tk.t, tk.xs⟩).map fun a => { a with ft := a.ft ++ [n'] } else none
   | _ => none
  | .nils => bindTok a n none ⟨.sl t, []⟩
  | _ => none
 | .mtk n t e deep, x, a => match x with
  | .mtk n' => match lookT T n' with
   | some (.live tk) => if tk.t = t ∧ tk.e = e ∧ tk.wr = true ∧ (deep = true → tk.deep = true) ∧ tk.tr = none then (bindTok a n (some n') ⟨.sl tk.t, tk.xs⟩).map fun a => { a with mt := a.mt ++ [n'] } else none
   | _ => none
  | .nils => bindTok a n none ⟨.sl t, []⟩
  | _ => none
 | .tre n t e, x, a => match x with
  | .mtk n' => match lookT T n' with
   | some (.live tk) => if tk.t = t ∧ tk.e = e ∧ tk.tr = some [] then (bindTok a n (some n') ⟨.sl tk.t, tk.xs⟩).map fun a => { a with mt := a.mt ++ [n'] } else none
   | _ => none
  | .nils => bindTok a n none ⟨.sl t, []⟩
  | _ => none
 | .agg l, x, a => match x with
  | .agg cs => convL l cs a
  | _ => none
 | .tup l, x, a => match x with
  | .tup cs => convL l cs a
  | _ => none
 | .clo f l, x, a => match x with
  | .clo g cs => if g = f then (match convL l cs { a with ps := [] } with
   | some a' => if a'.ps.length = (VS.codesL l).length then some { a' with ps := a.ps ++ [packP a'.ps] } else none
   | none => none) else none
  | _ => none
def convL : List VS → List AV → Acc → Option Acc
 | [], [], a => some a
 | v :: l, x :: xs, a => (conv v x a).bind fun a => convL l xs a
 | _, _, _ => none
end
def convB : List (Nat × Bool × List VS) → Acc → Option Acc
 | [], a => some a
 | (k, fz, vs) :: l, a =>
  let k' := (lookR a.rb k).getD k
  match lookB B k' with
  | some b => if b.fz = true → fz = true then (bindBox a k k').bind fun a => (convL B T vs b.cs { a with fb := if fz then a.fb ++ [k'] else a.fb, ub := if fz then a.ub else a.ub ++ [k'] }).bind fun a => convB l a else none
  | none => none
def accOk (s : Sh) (a : Acc) : Bool := a.mt.all (fun n => !a.ft.contains n) && a.ub.all (fun k => !a.fb.contains k) && a.rb.all (fun x => s.boxes.any fun b => b.1 == x.1) && a.rb.all (fun x => mapName x.1 == mapName x.2) && a.fb.all (fun k => !mapName k)
def Sh.conv (s : Sh) (xs : List AV) : Option (HD s.codes × Acc) :=
 (convL B T s.vals xs ⟨[], [], [], [], [], [], []⟩).bind fun a => (convB B T s.boxes a).bind fun a => if accOk s a then (pack s.codes a.ps).map fun y => (y, a) else none
end
mutual
def inst : VS → List Pay → AV × List Pay × List (Nat × Option TS)
 | .dead, ps => (.dead, ps, [])
 | .pv t, ps => match ps with
  | p :: ps => (.pv p.1 p.2, ps, [])
  | [] => (.dead, [], [])
 | .nils, ps => (.nils, ps, [])
 | .nilp, ps => (.nilp, ps, [])
 | .box k o, ps => (.box k o, ps, [])
 | .ptr t, ps => match ps with
  | p :: ps => (.ptr p.1 p.2 0, ps, [])
  | [] => (.dead, [], [])
 | .own n t e deep, ps => match ps with
  | ⟨.sl r, xs⟩ :: ps => (.own n r xs, ps, [(n, some (.live ⟨r, xs, e, false, deep, none⟩))])
  | _ => (.dead, [], [])
 | .mtk n t e deep, ps => match ps with
  | ⟨.sl r, xs⟩ :: ps => (.mtk n, ps, [(n, some (.live ⟨r, xs, e, true, deep, none⟩))])
  | _ => (.dead, [], [])
 | .tre n t e, ps => match ps with
  | ⟨.sl r, xs⟩ :: ps => (.mtk n, ps, [(n, some (.live ⟨r, xs, e, true, true, some []⟩))])
  | _ => (.dead, [], [])
 | .agg l, ps => match instL l ps with
  | (xs, ps, ts) => (.agg xs, ps, ts)
 | .tup l, ps => match instL l ps with
  | (xs, ps, ts) => (.tup xs, ps, ts)
 | .clo f l, ps => match ps with
  | p :: ps => match instL l (unpackP (VS.codesL l).length p) with
   | (xs, _, ts) => (.clo f xs, ps, ts)
  | [] => (.dead, [], [])
def instL : List VS → List Pay → List AV × List Pay × List (Nat × Option TS)
 | [], ps => ([], ps, [])
 | v :: l, ps => match inst v ps with
  | (x, ps, ts) => match instL l ps with
   | (xs, ps, us) => (x :: xs, ps, ts ++ us)
end
def instB : List (Nat × Bool × List VS) → List Pay → List (Nat × BS) × List (Nat × Option TS)
 | [], _ => ([], [])
 | (k, fz, vs) :: l, ps => match instL vs ps with
  | (xs, ps, ts) => match instB l ps with
   | (bs, us) => ((k, ⟨fz, xs⟩) :: bs, ts ++ us)
def Sh.mk' (s : Sh) (y : HD s.codes) : LSt := match instL s.vals (unpack s.codes y) with
 | (xs, ps, ts) => match instB s.boxes ps with
  | (bs, us) => ⟨xs, bs, ts ++ us⟩
structure Model where
 arg : Sh
 ret : Sh
 run : HD arg.codes → Option (HD ret.codes)
structure Env where
 P : Program
 ty : TypeId → Option Ty
 fn : FuncId → List Model
 wr : Nat → Bool
 res : Nat → Bool
 dw : Nat → Bool
inductive RD : Type 1 where
 | ret (e : Eff)
 | box (k : Nat) (f : Option BS → RD)
 | tok (t : Nat) (f : Option TS → RD)
 | need (p : Prop) (d : Decidable p) (f : RD)
 | get {α : Type} (o : Option α) (f : α → RD)
 | br (b : Bool) (f g : RD)
 | fail
def Eff.boxes (e : Eff) : List Nat := e.box.map (·.1)
def Eff.toks (e : Eff) : List Nat := e.tok.map (·.1)
def RD.run {ρ : Type} : RD → LSt → List Nat → List Nat → (Eff → FP → Option ρ) → Option ρ
 | .ret e, _, rb, rt, K => K e ⟨rb, e.boxes, rt, e.toks⟩
 | .box k f, s, rb, rt, K => (f (lookB s.B k)).run s (k :: rb) rt K
 | .tok t f, s, rb, rt, K => (f (lookT s.T t)).run s rb (t :: rt) K
 | .need p d f, s, rb, rt, K => @ite _ p d (f.run s rb rt K) none
 | .get o f, s, rb, rt, K => o.bind fun x => (f x).run s rb rt K
 | .br b f g, s, rb, rt, K => match b with
  | true => f.run s rb rt K
  | false => g.run s rb rt K
 | .fail, _, _, _, _ => none
def RD.val (x : AV) : RD := .ret ⟨x, [], []⟩
def fits (n : Int) : Prop := -9223372036854775808 ≤ n ∧ n ≤ 9223372036854775807
instance (n : Int) : Decidable (fits n) := inferInstanceAs (Decidable (_ ∧ _))
abbrev need (p : Prop) [d : Decidable p] (f : RD) : RD := .need p d f
def room (n m b : Nat) : Prop := (n + m) * b ≤ 140737488355328 ∧ n + m ≤ 9223372036854775807
instance (n m b : Nat) : Decidable (room n m b) := inferInstanceAs (Decidable (_ ∧ _))
def idx {α : Type} (xs : List α) (i : Int) : Option α := if 0 ≤ i then xs[i.toNat]? else none
def cut {α : Type} (xs : List α) (l h : Int) : Option (List α) := if 0 ≤ l ∧ l ≤ h ∧ h ≤ xs.length then some ((xs.take h.toNat).drop l.toNat) else none
def AV.cells? : AV → Option (List AV)
 | .dead => none
 | .tup _ => none
 | .agg cs => some cs
 | x => some [x]
def AV.leaf : AV → Bool
 | .agg _ => false
 | .tup _ => false
 | .clo _ _ => false
 | _ => true
def constAV : Value → AV
 | .bool b => .pv .bool b
 | .int k n => .pv (.int k) n
 | .string s => .pv .str s.data.toList
 | .slice none 0 0 => .nils
 | .pointer none => .nilp
 | _ => .dead
def LSt.ev (s : LSt) : Operand → AV
 | .tmp t => getA s.L t
 | .const v => constAV v
 | .global _ => .dead
 | .func f => .clo f []
def fillA (offs : List (Nat × Nat)) : List AV → List (Nat × AV) → Option (List AV)
 | cells, [] => some cells
 | cells, (i, x) :: rest =>
  match offs[i]?, x.cells? with
  | some (off, size), some cs => if cs.length = size ∧ off + size ≤ cells.length then fillA offs (cells.take off ++ cs ++ cells.drop (off + size)) rest else none
  | _, _ => none
def arithRD (k : IntKind) (n : Int) : RD :=
 match k with
 | .i64 => need (fits n) (.val (.pv (.int .i64) n))
 | k => .val (.pv (.int k) (k.wrap n))
def bitsI (op : BinOp) (k : IntKind) (x y : Int) : Int :=
 let a := BitVec.ofInt k.bits x
 let b := BitVec.ofInt k.bits y
 match op with
 | .and => k.wrap (a &&& b).toNat
 | .or => k.wrap (a ||| b).toNat
 | .xor => k.wrap (a ^^^ b).toNat
 | _ => k.wrap (a &&& ~~~b).toNat
def binInt (op : BinOp) (k : IntKind) (a b : Int) : RD :=
 match op with
 | .shl => need (0 ≤ b) (arithRD k (a * 2 ^ (min b.toNat k.bits)))
 | .shr => need (0 ≤ b) (.val (.pv (.int k) (a.fdiv (2 ^ (min b.toNat k.bits)))))
 | .add => arithRD k (a + b)
 | .sub => arithRD k (a - b)
 | .mul => arithRD k (a * b)
 | .quo => need (b ≠ 0) (arithRD k (a.tdiv b))
 | .rem => need (b ≠ 0) (.val (.pv (.int k) (a.tmod b)))
 | .and => .val (.pv (.int k) (bitsI .and k a b))
 | .or => .val (.pv (.int k) (bitsI .or k a b))
 | .xor => .val (.pv (.int k) (bitsI .xor k a b))
 | .andNot => .val (.pv (.int k) (bitsI .andNot k a b))
 | .eql => .val (.pv .bool (decide (a = b)))
 | .neq => .val (.pv .bool (!decide (a = b)))
 | .lss => .val (.pv .bool (decide (a < b)))
 | .leq => .val (.pv .bool (decide (a ≤ b)))
 | .gtr => .val (.pv .bool (decide (b < a)))
 | .geq => .val (.pv .bool (decide (b ≤ a)))
def binStr (op : BinOp) (a b : List UInt8) : RD :=
 match op with
 | .add => need (a.length + b.length ≤ 9223372036854775807) (.val (.pv .str (a ++ b)))
 | .eql => .val (.pv .bool (decide (a = b)))
 | .neq => .val (.pv .bool (!decide (a = b)))
 | .lss => .val (.pv .bool (Op.bytesLess a b))
 | .leq => .val (.pv .bool (Op.bytesLess a b || decide (a = b)))
 | .gtr => .val (.pv .bool (!(Op.bytesLess a b || decide (a = b))))
 | .geq => .val (.pv .bool (!Op.bytesLess a b))
 | _ => .fail
def binBool (op : BinOp) (a b : Bool) : RD :=
 match op with
 | .eql => .val (.pv .bool (a == b))
 | .neq => .val (.pv .bool (!(a == b)))
 | _ => .fail
def isNil (x : AV) : Option Bool := match x with
 | .nilp => some true
 | .ptr _ _ _ => some false
 | .pv (.opt _) y => some (Option.isNone y)
 | _ => none
def ptrRD (tp : Bool) (op : BinOp) (x y : AV) : RD :=
 match y with
 | .nilp => match isNil x with
  | some b => if tp then match op with
   | .eql => .val (.pv .bool b)
   | .neq => .val (.pv .bool (!b))
   | _ => .fail
   else .fail
  | none => .fail
 | _ => .fail
def binRD (tb tp : Bool) (op : BinOp) (x y : AV) : RD :=
 match x with
 | .pv (.int k) a => match y with
  | .pv (.int k') b => match op with
   | .shl => binInt .shl k a b
   | .shr => binInt .shr k a b
   | op => if k = k' then binInt op k a b else .fail
  | _ => .fail
 | .pv .str a => match y with
  | .pv .str b => binStr op a b
  | _ => .fail
 | .pv .bool a => match y with
  | .pv .bool b => if tb then binBool op a b else .fail
  | _ => .fail
 | x => ptrRD tp op x y
def aggs (x y : AV) : Option (List AV × List AV) := match x with
 | .agg xs => match y with
  | .agg ys => some (xs, ys)
  | _ => none
 | _ => none
def aggRD (r : Option Tp) (op : BinOp) (xs ys : List AV) : RD :=
 match r with
 | none => .fail
 | some r => match mkRow r xs with
  | none => .fail
  | some a => match mkRow r ys with
   | none => .fail
   | some b => match op with
    | .eql => .val (.pv .bool (r.eqB a b))
    | .neq => .val (.pv .bool (!r.eqB a b))
    | _ => .fail
def unRD (op : UnOp) (x : AV) : RD :=
 match x with
 | .pv .bool b => match op with
  | .not => .val (.pv .bool (!b))
  | _ => .fail
 | .pv (.int k) n => match op with
  | .neg => arithRD k (0 - n)
  | _ => .fail
 | _ => .fail
def bytesOf (xs : List Int) : List UInt8 := xs.map fun n => UInt8.ofNat n.toNat
def withRows (r : Tp) (x : AV) (f : List r.D → RD) : RD :=
 match x with
 | .mtk n => .tok n fun z => match z with
  | some (.live tk) => if h : tk.t = r ∧ tk.tr = none then f (h.1 ▸ tk.xs) else .fail
  | _ => .fail
 | x => match x.as (.sl r) with
  | some xs => f xs
  | none => .fail
def withInt (x : AV) (f : Int → RD) : RD :=
 match x with
 | .pv (.int _) n => f n
 | _ => .fail
def optInt (d : Int) (x : Option AV) (f : Int → RD) : RD :=
 match x with
 | none => f d
 | some x => withInt x f
def giveToks : List AV → (List (Nat × Option TS) → Bool → RD) → RD
 | [], f => f [] true
 | .own t _ _ :: l, f => .tok t fun x => giveToks l fun es p => f ((t, some .spent) :: es) ((match x with | some (.live tk) => tk.deep | _ => false) && p && es.all fun y => y.1 != t)
 | .pv t _ :: l, f => giveToks l fun es q => f es (t.flatB && q)
 | .nils :: l, f => giveToks l fun es q => f es q
 | _ :: l, f => giveToks l fun es q => f es false
def mkRows (r : Tp) : Nat → List AV → Option (List r.D)
 | 0, _ => some []
 | n + 1, cs => match mkRow r (cs.take r.w), mkRows r n (cs.drop r.w) with
  | some x, some xs => some (x :: xs)
  | _, _ => none
def partCells : Nat → Nat → List (Nat × AV) → Option (List AV)
 | _, _, [] => some []
 | m, i, (j, x) :: l => if i = j then match x.cells?, partCells m (i + 1) l with
   | some cs, some ds => if cs.length = m then some (cs ++ ds) else none
   | _, _ => none
  else none
def tokName (d j : Nat) : Nat := 1000 * (d + 1) + j
def newTok (E : Env) (d : Nat) (r : Tp) (xs : List r.D) (e : TypeId) (deep : Bool) (es : List (Nat × Option TS)) : RD :=
 .tok d fun x => match x with
  | some _ => .fail
  | none => if es.any (fun y => y.1 == d) || E.res d then .fail else if E.wr d then .ret ⟨.mtk d, [], es ++ [(d, some (.live ⟨r, xs, e, true, deep, none⟩))]⟩ else .ret ⟨.own d r xs, [], es ++ [(d, some (.live ⟨r, xs, e, false, deep, none⟩))]⟩
def deepOf : Option TS → Bool
 | some (.live tk) => tk.deep
 | _ => false
def appendRD (E : Env) (d : Nat) (e : TypeId) (r : Tp) (by' : Nat) (deep : Bool) (bt : List (Nat × Option TS)) (wr : Bool) (xs : List r.D) (src : AV) : RD :=
 let fin (ys : List r.D) (es : List (Nat × Option TS)) (deep : Bool) : RD :=
  need (room xs.length ys.length by')
   (if E.wr d = wr then newTok E d r (xs ++ ys) e deep es else .fail)
 match src with
 | .mtk n => .tok n fun z => match z with
  | some (.live tk) => if h : tk.t = r ∧ tk.tr = none then if r.flatB then fin (h.1 ▸ tk.xs) bt deep else if bt.any (fun y => y.1 == n) then .fail else fin (h.1 ▸ tk.xs) (bt ++ [(n, some .spent)]) (deep && tk.deep) else .fail
  | _ => .fail
 | .own n r' ys => if h : r' = r then if r.flatB then fin (h ▸ ys) bt deep else if bt.any (fun y => y.1 == n) then .fail else .tok n fun z => fin (h ▸ ys) (bt ++ [(n, some .spent)]) (deep && deepOf z) else .fail
 | src => match src.as (.sl r) with
  | some ys => fin ys bt (deep && r.flatB)
  | none => .fail
def newTree (E : Env) (d : Nat) (r : Tp) (xs : List r.D) (e : TypeId) (es : List (Nat × Option TS)) : RD :=
 .tok d fun x => match x with
  | some _ => .fail
  | none => if es.any (fun y => y.1 == d) || E.res d then .fail else if E.wr d = true ∧ r.flatB = false then .ret ⟨.mtk d, [], es ++ [(d, some (.live ⟨r, xs, e, true, true, some []⟩))]⟩ else .fail
def appendTree (E : Env) (d : Nat) (e : TypeId) (r : Tp) (by' : Nat) (t : Nat) (xs : List r.D) (src : AV) : RD := match src with
 | .mtk n => .tok n fun z => match z with
  | some (.live tk) => if h : tk.t = r ∧ tk.tr = some [] then if n == t then .fail else need (room xs.length tk.xs.length by') (newTree E d r (xs ++ h.1 ▸ tk.xs) e [(t, some .spent), (n, some .spent)]) else .fail
  | _ => .fail
 | _ => .fail
mutual
def AV.toks : AV → List Nat
 | .own n _ _ => [n]
 | .mtk n => [n]
 | .agg l => AV.toksL l
 | .tup l => AV.toksL l
 | .clo _ l => AV.toksL l
 | _ => []
def AV.toksL : List AV → List Nat
 | [] => []
 | x :: l => x.toks ++ AV.toksL l
end
mutual
def AV.boxs : AV → List Nat
 | .box k _ => [k]
 | .agg l => AV.boxsL l
 | .tup l => AV.boxsL l
 | .clo _ l => AV.boxsL l
 | _ => []
def AV.boxsL : List AV → List Nat
 | [] => []
 | x :: l => x.boxs ++ AV.boxsL l
end
def readB : List Nat → List (Nat × BS) → (List (Nat × BS) → RD) → RD
 | [], B, f => f B
 | k :: l, B, f => .box k fun b => match b with
  | some b => readB l (setB B k b) f
  | none => .fail
def readT : List Nat → List (Nat × Option TS) → (List (Nat × Option TS) → RD) → RD
 | [], T, f => f T
 | k :: l, T, f => .tok k fun z => readT l (setT T k z) f
def boxToks : List (Nat × BS) → List Nat
 | [] => []
 | (_, b) :: l => AV.toksL b.cs ++ boxToks l
def pickM (B : List (Nat × BS)) (T : List (Nat × Option TS)) (xs : List AV) (f : (m : Model) → HD m.arg.codes → Acc → RD) : List Model → RD
 | [] => .fail
 | m :: l => match m.arg.conv B T xs with
  | some (a, acc) => f m a acc
  | none => pickM B T xs f l
def freshT (E : Env) : List Nat → RD → RD
 | [], r => r
 | t :: l, r => .tok t fun x => match x with
  | none => if E.res t then .fail else freshT E l r
  | some _ => .fail
def freshB (E : Env) : List Nat → RD → RD
 | [], r => r
 | t :: l, r => .box t fun x => match x with
  | none => if E.res t then .fail else freshB E l r
  | some _ => .fail
def renB (d : Nat) (rb : List (Nat × Nat)) (k : Nat) : Nat := (lookR rb k).getD (tokName d k)
def renT (d : Nat) (rt : List (Nat × Option Nat)) (n : Nat) : Nat := match lookR rt n with
 | some (some n') => n'
 | _ => tokName d n
mutual
def AV.ren (ρb ρt : Nat → Nat) : AV → AV
 | .box k o => .box (ρb k) o
 | .own n t xs => .own (ρt n) t xs
 | .mtk n => .mtk (ρt n)
 | .mptr n i o => .mptr (ρt n) i o
 | .agg l => .agg (AV.renL ρb ρt l)
 | .tup l => .tup (AV.renL ρb ρt l)
 | .clo f l => .clo f (AV.renL ρb ρt l)
 | x => x
def AV.renL (ρb ρt : Nat → Nat) : List AV → List AV
 | [] => []
 | x :: l => x.ren ρb ρt :: AV.renL ρb ρt l
end
def backOk (T : List (Nat × Option TS)) (acc : Acc) (x : Nat × Option TS) : Bool := match lookR acc.rt x.1 with
 | some (some n) => match lookT T n, x.2 with
  | some (.live tk), some (.live tk') => tk.wr && decide (tk'.t = tk.t) && !acc.ft.contains n
  | _, _ => false
 | _ => true
def liveB (z : Option TS) : Bool := match z with
 | some (.live _) => true
 | _ => false
def isBound (acc : Acc) (n : Nat) : Bool := match lookR acc.rt n with
 | some (some _) => true
 | _ => false
def callOk (d : Nat) (B : List (Nat × BS)) (T : List (Nat × Option TS)) (acc : Acc) (s' : LSt) : Bool :=
 acc.fb.all (fun k => (lookB B k).isSome) && acc.ft.all (fun n => liveB (lookT T n)) && acc.rb.all (fun x => (lookB s'.B x.1).isSome) && decide ((s'.B.map (·.1)).Nodup) && decide ((s'.T.map (·.1)).Nodup) && s'.T.all (backOk T acc) && s'.T.all (fun x => liveB x.2) && s'.B.all (fun x => mapName (renB d acc.rb x.1) == mapName x.1)
def fzOne (T : List (Nat × Option TS)) (n : Nat) : Option (Nat × Option TS) := match lookT T n with
 | some (.live tk) => some (n, some (.live tk.fz))
 | _ => none
def callRet (E : Env) (d : Option Nat) (B : List (Nat × BS)) (T : List (Nat × Option TS)) (acc : Acc) (s' : LSt) : RD :=
 let ρb := renB (d.getD 0) acc.rb
 let ρt := renT (d.getD 0) acc.rt
 let fzBl : List (Nat × BS) := acc.fb.filterMap fun k => (lookB B k).map fun b => (k, { b with fz := true })
 let fzTl : List (Nat × Option TS) := acc.ft.filterMap (fzOne T)
 let used := acc.rt.filterMap (·.2)
 let newB := s'.B.map fun x => (ρb x.1, (⟨x.2.fz, AV.renL ρb ρt x.2.cs⟩ : BS))
 let newT := s'.T.map fun x => (ρt x.1, x.2)
 if callOk (d.getD 0) B T acc s' then
  freshB E ((s'.B.filter fun x => (lookR acc.rb x.1).isNone).map fun x => ρb x.1) <|
  freshT E ((s'.T.filter fun x => !isBound acc x.1).map fun x => ρt x.1) <|
  match s'.L with
  | [] => .fail
  | v :: _ => .ret ⟨match d with | some _ => v.ren ρb ρt | none => .dead, fzBl ++ newB, fzTl ++ ((used.map fun n => (n, some .spent)) ++ newT)⟩
 else .fail
mutual
def AV.clean : AV → Bool
 | .pv t _ => t.flatB
 | .own _ _ _ => true
 | .nils => true
 | .dead => true
 | .agg l => AV.cleanL l
 | .tup l => AV.cleanL l
 | _ => false
def AV.cleanL : List AV → Bool
 | [] => true
 | x :: l => x.clean && AV.cleanL l
end
mutual
def AV.toM (ρ : Nat → Nat) : AV → AV
 | .own n _ _ => .mtk (ρ n)
 | .agg l => .agg (AV.toML ρ l)
 | .tup l => .tup (AV.toML ρ l)
 | x => x
def AV.toML (ρ : Nat → Nat) : List AV → List AV
 | [] => []
 | x :: l => x.toM ρ :: AV.toML ρ l
end
def treeTok (tk : Tok) : Tok := ⟨tk.t, tk.xs, tk.e, true, true, bif tk.t.flatB then none else some []⟩
def ownDeep (x : Nat × Option TS) : Bool := match x.2 with
 | some (.live tk) => tk.deep && !tk.wr && tk.tr.isNone
 | _ => false
def treeOf (ρ : Nat → Nat) (x : Nat × Option TS) : Nat × Option TS := match x.2 with
 | some (.live tk) => (ρ x.1, some (.live (treeTok tk)))
 | z => (ρ x.1, z)
def lendRet (E : Env) (d : Option Nat) (s' : LSt) : RD :=
 let ρt := tokName (d.getD 0)
 if s'.B.isEmpty = true ∧ s'.T.all ownDeep = true ∧ (s'.T.map (·.1)).Nodup ∧ AV.cleanL s'.L = true then
  freshT E (s'.T.map fun x => ρt x.1) <|
  match s'.L with
  | [] => .fail
  | v :: _ => .ret ⟨match d with | some _ => v.toM ρt | none => .dead, [], s'.T.map (treeOf ρt)⟩
 else .fail
def lendRD (E : Env) (f : FuncId) (d : Option Nat) (xs : List AV) : RD :=
 readB (AV.boxsL xs) [] fun B => readT (AV.toksL xs ++ boxToks B) [] fun T =>
  pickM B T xs (fun m a acc => if acc.rt.isEmpty = true ∧ acc.rb.isEmpty = true ∧ m.arg.boxes.isEmpty = true then .get (m.run a) fun r => lendRet E d (m.ret.mk' r) else .fail) (E.fn f)
def callRD (E : Env) (f : FuncId) (d : Option Nat) (xs : List AV) : RD :=
 readB (AV.boxsL xs) [] fun B => readT (AV.toksL xs ++ boxToks B) [] fun T =>
  pickM B T xs (fun m a acc => .get (m.run a) fun r => callRet E d B T acc (m.ret.mk' r)) (E.fn f)
def findHole (o : Nat) : List (Nat × Nat × Nat) → Option (Nat × Nat)
 | [] => none
 | h :: hs => bif Nat.beq h.2.1 o then some (h.1, h.2.2) else findHole o hs
def dropHoles (i o size : Nat) : List (Nat × Nat × Nat) → (List (Nat × Nat × Nat) → RD) → RD
 | [], f => f []
 | h :: hs, f => bif Nat.ble o h.2.1 && Nat.blt h.2.1 (o + size) then need (h.1 = i) (dropHoles i o size hs f) else dropHoles i o size hs fun l => f (h :: l)
def loadTree (E : Env) (dst : Option Nat) (ty : Ty) (n i o : Nat) (tk : Tok) (hs : List (Nat × Nat × Nat)) : RD :=
 if ty.agg then .fail else .get (tk.xs[i]?) fun y => match (cellsOf tk.t y)[o]? with
  | some (.pv (.sl r) x) => match findHole o hs with
   | some (i', d') => need (i' = i) (.tok d' fun z => match z with
    | some (.live _) => .val (.mtk d')
    | _ => .fail)
   | none => match dst, ty.elem with
    | some d, some (e, _, _) => .tok d fun z => match z with
     | none => if E.res d then .fail else .ret ⟨.mtk d, [], [(n, some (.live { tk with tr := some ((i, o, d) :: hs) })), (d, some (.live ⟨r, x, e, true, true, bif r.flatB then none else some []⟩))]⟩
     | some _ => .fail
    | _, _ => .fail
  | some (.pv t x) => if t.flatB = true then (match findHole o hs with
   | none => .val (.pv t x)
   | some _ => .fail) else .fail
  | _ => .fail
def giveTree : List AV → (List AV → List (Nat × Option TS) → RD) → RD
 | [], f => f [] []
 | c :: l, f => match c with
  | .mtk t => .tok t fun z => match z with
   | some (.live tk) => if tk.whole = true ∧ tk.wr = true ∧ tk.deep = true ∧ (tk.tr = none → tk.t.flatB = true) then giveTree l fun cs es => if es.any fun y => y.1 == t then .fail else f (.pv (.sl tk.t) tk.xs :: cs) ((t, some .spent) :: es) else .fail
   | _ => .fail
  | .pv t x => if t.flatB = true then giveTree l fun cs es => f (.pv t x :: cs) es else .fail
  | .nils => giveTree l fun cs es => f (.nils :: cs) es
  | _ => .fail
def storeTree (n i o size : Nat) (ys : List AV) (tk : Tok) (hs : List (Nat × Nat × Nat)) : RD :=
 if o + size ≤ tk.t.w ∧ (hs.all fun h => Nat.blt h.2.1 tk.t.w) = true then giveTree ys fun cs es => if es.any fun y => y.1 == n then .fail else dropHoles i o size hs fun hs' => .get (tk.xs[i]?) fun old => match mkRow tk.t ((cellsOf tk.t old).take o ++ cs ++ (cellsOf tk.t old).drop (o + size)) with
  | some y' => .ret ⟨.tup [], [], es ++ [(n, some (.live { tk with xs := tk.xs.set i y', tr := some hs' }))]⟩
  | none => .fail
 else .fail
def cellTp : Tp → Nat → Option Tp
 | .unit, _ => none
 | .pair a b, o => bif Nat.blt o a.w then cellTp a o else cellTp b (o - a.w)
 | .q, o => match o with
  | 0 => some (.int .i64)
  | 1 => some .str
  | 2 => some (.sl .str)
  | 3 => some (.int .i64)
  | 4 => some (.int .i64)
  | 5 => some (.sl .q)
  | _ => none
 | t, o => match o with
  | 0 => some t
  | _ => none
def setCell : (t : Tp) → t.D → Nat → (r : Tp) → List r.D → t.D
 | .pair a b, x, o, r, ys => bif Nat.blt o a.w then (setCell a x.1 o r ys, x.2) else (x.1, setCell b x.2 (o - a.w) r ys)
 | .q, x, o, r, ys => match o, r, ys with
  | 2, .str, ys => .mk x.kind x.field ys x.lo x.hi x.kids
  | 5, .q, ys => .mk x.kind x.field x.words x.lo x.hi ys
  | _, _, _ => x
 | .sl r', x, _, r, ys => if h : r = r' then h ▸ ys else x
 | _, x, _, _, _ => x
def plugAt (T : List (Nat × Option TS)) (n : Nat) : List (Nat × Option TS) := match lookT T n with
 | some (.live tk) => match tk.tr with
  | some ((i, o, d) :: hs) => match lookT T d with
   | some (.live td) => if td.whole = true ∧ td.wr = true ∧ td.deep = true ∧ (td.tr = none → td.t.flatB = true) ∧ d ≠ n ∧ cellTp tk.t o = some (.sl td.t) then setT (setT T d (some .spent)) n (some (.live { tk with xs := tk.xs.modify i fun y => setCell tk.t y o td.t td.xs, tr := some hs })) else T
   | _ => T
  | _ => T
 | _ => T
def plugs : Nat → List Nat → List (Nat × Option TS) → List (Nat × Option TS)
 | 0, _, T => T
 | k + 1, ns, T => plugs k ns (ns.foldl plugAt T)
def isOpen : Nat × Option TS → Bool
 | (_, some (.live tk)) => !tk.whole
 | _ => false
def plugAll (T : List (Nat × Option TS)) : List (Nat × Option TS) := bif T.any isOpen then plugs 8 (T.map (·.1)) T else T
def lenRD (r : Tp) (x : AV) : RD := match x with
 | .mtk n => .tok n fun z => match z with
  | some (.live tk) => if tk.t = r then .val (.pv (.int .i64) (tk.xs.length : Int)) else .fail
  | _ => .fail
 | x => withRows r x fun xs => .val (.pv (.int .i64) (xs.length : Int))
def zeroDeep : List AV → Bool
 | [] => true
 | .pv t _ :: l => t.flatB && zeroDeep l
 | .nils :: l => zeroDeep l
 | _ => false
def lends (E : Env) (dst : Option Nat) : Bool := match dst with
 | some d => E.dw d
 | none => false
def keepName (E : Env) (dst : Option Nat) (lo : Option Operand) (wr : Bool) : Option Nat := match dst, lo with
 | some d, none => if E.wr d && wr then some d else none
 | _, _ => none
def zeroT : (t : Tp) → Option t.D
 | .bool => some false
 | .int _ => some (0 : Int)
 | .str => some ([] : List UInt8)
 | _ => none
def mget (kt vt : Tp) (es : List (kt.D × vt.D)) (k : kt.D) : Option vt.D := (es.find? fun e => kt.eqB k e.1).map (·.2)
def mput (kt vt : Tp) (es : List (kt.D × vt.D)) (k : kt.D) (v : vt.D) : List (kt.D × vt.D) := match es with
 | [] => [(k, v)]
 | e :: l => bif kt.eqB k e.1 then (k, v) :: l else e :: mput kt vt l k v
def withMap (kt vt : Tp) (x : AV) (f : Nat → List (kt.D × vt.D) → RD) : RD := match x with
 | .box k _ => if mapName k then .box k fun b => match b with
  | some ⟨false, [.pv t es]⟩ => if h : t = .sl (.pair kt vt) then f k (show (Tp.sl (.pair kt vt)).D from h ▸ es) else .fail
  | _ => .fail
  else .fail
 | _ => .fail
def makeMapRD (E : Env) (dst : Option Nat) (T : TypeId) : RD := match dst, E.ty T with
 | some d, some ty => match ty.mp with
  | some (_, _, kt, vt) => if mapName (1000000000 + d) then .box (1000000000 + d) fun b => match b with
   | none => if E.res (1000000000 + d) then .fail else .ret ⟨.box (1000000000 + d) 0, [(1000000000 + d, ⟨false, [.pv (.sl (.pair kt vt)) ([] : List (kt.D × vt.D))]⟩)], []⟩
   | some _ => .fail
   else .fail
  | none => .fail
 | _, _ => .fail
def lookG : List (Nat × GF) → Nat → Option GF
 | [], _ => none
 | (k, x) :: l, j => bif Nat.beq k j then some x else lookG l j
def gOf : Operand → Option Nat
 | .global g => some g
 | _ => none
def gloadRD (ty : Ty) (g : Nat) : RD := match lookG gtab g with
 | some (.row t y) => if ty.agg then (if 0 + ty.size ≤ (cellsOf t y).length then .val (.agg (((cellsOf t y).drop 0).take ty.size)) else .fail) else match (cellsOf t y)[0]? with
  | some c => .val c
  | none => .fail
 | some (.map _ _ _ _) => if ty.agg then .fail else .val (.gmap g)
 | none => .fail
def gmapOf : AV → Option Nat
 | .gmap g => some g
 | _ => none
def zeroD : (t : Tp) → Option t.D
 | .pair a b => match zeroD a, zeroD b with
  | some x, some y => some (x, y)
  | _, _ => none
 | t => zeroT t
def rowAV (agg : Bool) (t : Tp) (y : t.D) : AV := bif agg then .agg (cellsOf t y) else .pv t y
def glookRD (E : Env) (T : TypeId) (g : Nat) (i : AV) (ok : Bool) : RD := match E.ty T with
 | some ty => match ty.gm with
  | some (_, _, kt, vt, agg) => match lookG gtab g with
   | some (.map kt' vt' agg' es) => if h : kt' = kt ∧ vt' = vt ∧ agg' = agg then .get (i.as kt) fun k => .get (zeroD vt) fun z => bif ok then .val (.tup [rowAV agg vt ((mget kt vt (show (Tp.sl (.pair kt vt)).D from h.1 ▸ h.2.1 ▸ es) k).getD z), .pv .bool (mget kt vt (show (Tp.sl (.pair kt vt)).D from h.1 ▸ h.2.1 ▸ es) k).isSome]) else .val (rowAV agg vt ((mget kt vt (show (Tp.sl (.pair kt vt)).D from h.1 ▸ h.2.1 ▸ es) k).getD z)) else .fail
   | _ => .fail
  | none => .fail
 | none => .fail
def lookupRD (E : Env) (T : TypeId) (x i : AV) (ok : Bool) : RD := match E.ty T with
 | some ty => match ty.mp with
  | some (_, _, kt, vt) => withMap kt vt x fun _ es => .get (i.as kt) fun k => .get (zeroT vt) fun z => bif ok then .val (.tup [.pv vt ((mget kt vt es k).getD z), .pv .bool (mget kt vt es k).isSome]) else .val (.pv vt ((mget kt vt es k).getD z))
  | none => .fail
 | none => .fail
def mapUpdateRD (E : Env) (dst : Option Nat) (T : TypeId) (x i y : AV) : RD := match E.ty T, dst with
 | some ty, none => match ty.mp with
  | some (_, _, kt, vt) => withMap kt vt x fun n es => .get (i.as kt) fun k => .get (y.as vt) fun v => .ret ⟨.tup [], [(n, ⟨false, [.pv (.sl (.pair kt vt)) (mput kt vt es k v)]⟩)], []⟩
  | none => .fail
 | _, _ => .fail
def Tok.thaw (tk : Tok) : Tok := { tk with deep := false, tr := none }
def thawRD (c : AV) : RD := match c with
 | .mtk n => .tok n fun z => match z with
  | some (.live tk) => if tk.tr = some [] then .ret ⟨.mtk n, [], [(n, some (.live tk.thaw))]⟩ else .fail
  | _ => .fail
 | _ => .fail
def opRD (E : Env) (op : Op) (dst : Option Nat) (ρ : Operand → AV) : RD :=
 match op with
 | .move x => .val (ρ x)
 | .assign x => .val (ρ x)
 | .pick c a b => match ρ c with
  | .pv .bool t => .br t (.val (ρ a)) (.val (ρ b))
  | _ => .fail
 | .alloc T => match dst, E.ty T with
  | some d, some ty => .box d fun b => match b with
   | none => if E.res d || mapName d then .fail else .ret ⟨.box d 0, [(d, ⟨false, ty.zero⟩)], []⟩
   | some _ => .fail
  | _, _ => .fail
 | .box T x => match dst, E.ty T, (ρ x).cells? with
  | some d, some ty, some cs => .box d fun b => match b with
   | none => if cs.length = ty.size ∧ E.res d = false ∧ mapName d = false then .ret ⟨.box d 0, [(d, ⟨false, cs⟩)], []⟩ else .fail
   | some _ => .fail
  | _, _, _ => .fail
 | .build T parts => match E.ty T with
  | some ty => match ty.offs, fillA ty.offs ty.zero (parts.toList.map fun q => (q.1, ρ q.2)) with
   | _ :: _, some cs => .val (.agg cs)
   | _, _ => .fail
  | none => .fail
 | .buildSlice T len parts => match dst, E.ty T with
  | some d, some ty => match ty.elem with
   | some (e, r, _) => match partCells r.w 0 (parts.toList.map fun q => (q.1, ρ q.2)) with
    | some cs => match mkRows r len cs with
     | some xs => if len = parts.toList.length ∧ len * r.w ≤ 16777216 then (if E.dw d = true ∧ r.flatB = false ∧ zeroDeep cs = true then newTree E d r xs e [] else giveToks cs fun es deep => newTok E d r xs e deep es) else .fail
     | none => .fail
    | none => .fail
   | none => .fail
  | _, _ => .fail
 | .load T x => match E.ty T with
  | none => .fail
  | some ty => match gOf x with
   | some g => gloadRD ty g
   | none => match ρ x with
   | .box k o => if mapName k then .fail else .box k fun b => match b with
    | none => .fail
    | some b => if ty.agg then (if o + ty.size ≤ b.cs.length then .val (.agg ((b.cs.drop o).take ty.size)) else .fail) else match b.cs[o]? with
     | some c => if lends E dst = true then thawRD c else .val c
     | none => .fail
   | .ptr t y o => if ty.agg then (if o + ty.size ≤ (cellsOf t y).length then .val (.agg (((cellsOf t y).drop o).take ty.size)) else .fail) else match (cellsOf t y)[o]? with
    | some c => .val c
    | none => .fail
   | .mptr n i o => .tok n fun z => match z with
    | some (.live tk) => (match tk.tr with
     | none => .get (tk.xs[i]?) fun y => if ty.agg then (if o + ty.size ≤ (cellsOf tk.t y).length then .val (.agg (((cellsOf tk.t y).drop o).take ty.size)) else .fail) else match (cellsOf tk.t y)[o]? with
      | some c => .val c
      | none => .fail
     | some hs => loadTree E dst ty n i o tk hs)
    | _ => .fail
   | _ => .fail
 | .store T x y => match E.ty T, (ρ y).cells?, dst with
  | some ty, some ys, none => if ys.length = ty.size then match ρ x with
   | .box k o => if mapName k then .fail else .box k fun b => match b with
    | some ⟨false, cs⟩ => if o + ty.size ≤ cs.length then .ret ⟨.tup [], [(k, ⟨false, cs.take o ++ ys ++ cs.drop (o + ty.size)⟩)], []⟩ else .fail
    | _ => .fail
   | .mptr n i o => .tok n fun z => match z with
    | some (.live tk) => (match tk.tr with
     | none => if tk.wr = true ∧ (tk.t.flatB = true ∨ tk.deep = false) ∧ o + ty.size ≤ tk.t.w then .get (tk.xs[i]?) fun old => match mkRow tk.t ((cellsOf tk.t old).take o ++ ys ++ (cellsOf tk.t old).drop (o + ty.size)) with
      | some y' => .ret ⟨.tup [], [], [(n, some (.live { tk with xs := tk.xs.set i y' }))]⟩
      | none => .fail
      else .fail
     | some hs => storeTree n i o ty.size ys tk hs)
    | _ => .fail
   | _ => .fail
   else .fail
  | _, _, _ => .fail
 | .makeSlice T l c => match dst, E.ty T with
  | some d, some ty => match ty.elem with
   | some (e, r, by') => match E.ty e with
    | some te => match mkRow r te.zero with
     | some z => if te.zero.length = r.w ∧ zeroDeep te.zero = true then withInt (ρ l) fun n => withInt (ρ c) fun m => need (n = m ∧ 0 ≤ n ∧ n * by' ≤ 140737488355328 ∧ n ≤ 140737488355328) (.tok d fun x => match x with
       | some _ => .fail
       | none => if E.res d then .fail else if E.wr d then .ret ⟨.mtk d, [], [(d, some (.live ⟨r, List.replicate n.toNat z, e, true, true, bif r.flatB then none else some []⟩))]⟩ else .ret ⟨.own d r (List.replicate n.toNat z), [], [(d, some (.live ⟨r, List.replicate n.toNat z, e, false, true, none⟩))]⟩)
      else .fail
     | none => .fail
    | none => .fail
   | none => .fail
  | _, _ => .fail
 | .nilCheck x => match ρ x with
  | .box k o => if mapName k then .fail else .val (.box k o)
  | .ptr t r o => .val (.ptr t r o)
  | .mptr n i o => .tok n fun z => match z with
   | some (.live _) => .val (.mptr n i o)
   | _ => .fail
  | .pv (.opt t) y => .get y fun r => .val (.ptr t r 0)
  | _ => .fail
 | .binOp op T x y _ => match aggs (ρ x) (ρ y) with
  | some (xs, ys) => aggRD ((E.ty T).bind (·.eqs)) op xs ys
  | none => binRD (match E.ty T with | some ty => ty.bool | none => false) (match E.ty T with | some ty => ty.ptr | none => false) op (ρ x) (ρ y)
 | .unOp op _ x => unRD op (ρ x)
 | .fieldAddr T x f => match E.ty T with
  | some ty => match ty.offs[f]? with
   | some (off, size) => if 0 < size then match ρ x with
    | .box k o => if mapName k then .fail else .val (.box k (o + off))
    | .ptr t y o => .val (.ptr t y (o + off))
    | .mptr n i o => .tok n fun z => match z with
     | some (.live _) => .val (.mptr n i (o + off))
     | _ => .fail
    | _ => .fail
    else .fail
   | none => .fail
  | none => .fail
 | .field T x f => match E.ty T with
  | some ty => match ty.fts[f]? with
   | some (ft, off) => match E.ty ft with
    | some tf => match ρ x with
     | .agg cs => if tf.agg then (if off + tf.size ≤ cs.length then .val (.agg ((cs.drop off).take tf.size)) else .fail) else match cs[off]? with
      | some c => .val c
      | none => .fail
     | _ => .fail
    | none => .fail
   | none => .fail
  | none => .fail
 | .indexAddr T x i => match E.ty T with
  | some ty => match ty.elem with
   | some (_, r, _) => withInt (ρ i) fun n => match ρ x with
    | .mtk t => .tok t fun z => match z with
     | some (.live tk) => need (0 ≤ n ∧ n < tk.xs.length) (if tk.t = r then .val (.mptr t n.toNat 0) else .fail)
     | _ => .fail
    | x => withRows r x fun xs => .get (idx xs n) fun y => .val (.ptr r y 0)
   | none => .fail
  | none => .fail
 | .index T x i => match E.ty T with
  | some ty => withInt (ρ i) fun n => match ρ x with
   | .pv .str s => if ty.str then .get (idx s n) fun b => .val (.pv (.int .u8) b.toNat) else .fail
   | _ => .fail
  | none => .fail
 | .extract x i => match ρ x with
  | .tup cs => match cs[i]? with
   | some c => .val c
   | none => .fail
  | _ => .fail
 | .slice T x lo hi none => match E.ty T with
  | some ty => match ρ x with
   | .pv .str s => if ty.str then optInt 0 (lo.map ρ) fun l => optInt s.length (hi.map ρ) fun h => .get (cut s l h) fun y => .val (.pv .str y) else .fail
   | x => match ty.elem with
    | some (_, r, _) => match x with
     | .mtk n => .tok n fun z => match z with
      | some (.live tk) => if tk.t = r ∧ tk.tr = none then optInt 0 (lo.map ρ) fun l => optInt tk.xs.length (hi.map ρ) fun h => .get (cut tk.xs l h) fun y => match keepName E dst lo tk.wr with
        | some d => newTok E d tk.t y tk.e tk.deep [(n, some .spent)]
        | none => .ret ⟨.pv (.sl tk.t) y, [], [(n, some (.live tk.fz0))]⟩
       else .fail
      | _ => .fail
     | x => match x.as (.sl r) with
      | some xs => optInt 0 (lo.map ρ) fun l => optInt (List.length (α := r.D) xs) (hi.map ρ) fun h => .get (cut (α := r.D) xs l h) fun y => .val (.pv (.sl r) y)
      | none => .fail
    | none => .fail
  | none => .fail
 | .convert S T x => match E.ty S, E.ty T with
  | some tyS, some ty => match ρ x with
   | .pv (.int _) n => match ty.int with
    | some k => .val (.pv (.int k) (k.wrap n))
    | none => .fail
   | .pv .str b => if ty.str then .val (.pv .str b) else .fail
   | x => match tyS.elem with
    | some (e, .int .u8, _) => match (E.ty e).bind (·.int) with
     | some .u8 => if ty.str then withRows (.int .u8) x fun xs => .val (.pv .str (bytesOf xs)) else .fail
     | _ => .fail
    | _ => .fail
  | _, _ => .fail
 | .makeMap T r => match r with
  | none => makeMapRD E dst T
  | some _ => .fail
 | .lookup T x i ok => match gmapOf (ρ x) with
  | some g => glookRD E T g (ρ i) ok
  | none => lookupRD E T (ρ x) (ρ i) ok
 | .mapUpdate T m k v => mapUpdateRD E dst T (ρ m) (ρ k) (ρ v)
 | .makeFunc (.func f) first captured => match first.toList with
  | [] => if (captured.toList.map ρ).all AV.leaf then .val (.clo f (captured.toList.map ρ)) else .fail
  | _ => .fail
 | .call c => match c.callee with
  | .value g => match ρ g with
   | .clo f cs => bif lends E dst then lendRD E f dst (c.args.toList.map ρ ++ cs) else callRD E f dst (c.args.toList.map ρ ++ cs)
   | _ => .fail
  | .builtin .len => match c.args.toList, c.argTypes[0]? with
   | [x], some T => match E.ty T with
    | some ty => match ρ x with
     | .pv .str s => if ty.str then .val (.pv (.int .i64) (s.length : Int)) else .fail
     | x => match ty.elem with
      | some (_, r, _) => lenRD r x
      | none => .fail
    | none => .fail
   | _, _ => .fail
  | .builtin .min => match c.args.toList with
   | [x, y] => match ρ x with
    | .pv (.int k) a => match ρ y with
     | .pv (.int _) b => .val (.pv (.int k) (if b < a then b else a))
     | _ => .fail
    | _ => .fail
   | [x, y, z] => match ρ x with
    | .pv (.int k) a => match ρ y with
     | .pv (.int _) b => match ρ z with
      | .pv (.int _) d => .val (.pv (.int k) (if d < (if b < a then b else a) then d else (if b < a then b else a)))
      | _ => .fail
     | _ => .fail
    | _ => .fail
   | _ => .fail
  | .builtin .max => match c.args.toList with
   | [x, y] => match ρ x with
    | .pv (.int k) a => match ρ y with
     | .pv (.int _) b => .val (.pv (.int k) (if b > a then b else a))
     | _ => .fail
    | _ => .fail
   | _ => .fail
  | .builtin .append => match dst, c.args.toList, c.argTypes.toList with
   | some d, [x, y], [T, T'] => if T = T' then match E.ty T with
    | some ty => match ty.elem with
     | some (e, r, by') => match ρ x with
      | .own t r' xs => .tok t fun z => match z with
       | some (.live tk) => if h : r' = r then (if tk.e = e then appendRD E d e r by' tk.deep [(t, some .spent)] false (h ▸ xs) (ρ y) else .fail) else .fail
       | _ => .fail
      | .mtk t => .tok t fun z => match z with
       | some (.live tk) => if h : tk.t = r ∧ tk.tr = none then (if tk.e = e then appendRD E d e r by' tk.deep [(t, some .spent)] tk.wr (h.1 ▸ tk.xs) (ρ y) else .fail) else if h : tk.t = r ∧ tk.tr = some [] then (if tk.e = e then appendTree E d e r by' t (h.1 ▸ tk.xs) (ρ y) else .fail) else .fail
       | _ => .fail
      | .nils => appendRD E d e r by' true [] (E.wr d) [] (ρ y)
      | _ => .fail
     | none => .fail
    | none => .fail
    else .fail
   | _, _, _ => .fail
  | _ => .fail
 | _ => .fail
def skipEff : Eff := ⟨.tup [], [], []⟩
def fp0 : FP := ⟨[], [], [], []⟩
def runOps {ρ : Type} (E : Env) (all : Array Oper) : List Oper → LSt → List FP → (LSt → List FP → Option ρ) → Option ρ
 | [], s, acc, K => K s acc.reverse
 | o :: l, s, acc, K =>
  let go (s : LSt) : Option ρ := (opRD E o.op o.dst s.ev).run s [] [] fun e fp => runOps E all l (s.app o.dst e) (fp :: acc) K
  let pass (s : LSt) : Option ρ := runOps E all l (s.app o.dst skipEff) (fp0 :: acc) K
  match o.guard with
  | none => go s
  | some (j, want) => match (all[j]?).bind (·.dst) with
   | none => pass s
   | some t => match getA s.L t with
    | .pv .bool b => (match b with
     | true => (let s := { s with L := setA s.L t (.pv .bool true) }; match want with | true => go s | false => pass s)
     | false => (let s := { s with L := setA s.L t (.pv .bool false) }; match want with | true => pass s | false => go s))
    | .tup [] => pass s
    | _ => none
inductive Ghost where
 | out (slot : Nat) (path : List (Nat × Nat × Nat × Nat))
 | thaw (k c : Nat)
inductive Hint where
 | no
 | touch (gs : List Ghost)
 | seq (a b : Hint)
 | meet (s : Sh) (a b : Hint)
 | cond (a b : Hint)
 | block (a : Hint)
 | loop (s : Sh) (a : Hint)
def iter {δ ρ : Type} (F : (δ → Option ρ) → δ → Option ρ) : Nat → δ → Option ρ
 | 0, _ => none
 | n + 1, x => F (iter F n) x
def meet {δ ρ : Type} (J : δ → Option ρ) (X : (δ → Option ρ) → Option ρ) : Option ρ := X J
def Hint.seqs : Hint → Option Sh × Hint × Hint
 | .seq a b => (none, a, b)
 | .meet s a b => (some s, a, b)
 | _ => (none, .no, .no)
def Hint.conds : Hint → Hint × Hint
 | .cond a b => (a, b)
 | _ => (.no, .no)
def Hint.blk : Hint → Hint
 | .block a => a
 | _ => .no
def resOk (E : Env) (a : Acc) : Bool := a.rb.all (fun x => !E.res x.1 || x.1 == x.2) && a.rt.all (fun x => match x.2 with
 | some n => !E.res x.1 || x.1 == n
 | none => !E.res x.1)
def Sh.to0 (E : Env) (s : Sh) (st : LSt) : Option (HD s.codes) := match s.conv st.B st.T st.L with
 | some (y, a) => if resOk E a then some y else none
 | none => none
def LSt.plug (st : LSt) : LSt := { st with T := plugAll st.T }
def Sh.to (E : Env) (s : Sh) (st : LSt) : Option (HD s.codes) := s.to0 E st.plug
def setOp (s : LSt) (c : Operand) (b : Bool) : LSt := match c with
 | .tmp t => { s with L := setA s.L t (.pv .bool b) }
 | _ => s
def ixOf : AV → Option Nat
 | .mptr _ i _ => some i
 | .pv (.int _) k => some (Int.toNat k)
 | _ => none
def outRun {ρ : Type} (E : Env) : List (Nat × Nat × Nat × Nat) → Nat → Nat → LSt → (LSt → Option ρ) → Option ρ
 | [], _, _, s, K => K s
 | (o, d, e, ix) :: p, n, i, s, K => match lookT s.T n with
  | some (.live tk) => match tk.tr with
   | some hs => match findHole o hs with
    | some (i', d') => if i' = i then (match p with
     | [] => K s
     | _ :: _ => match ixOf (getA s.L ix) with
      | some j => outRun E p d' j s K
      | none => none) else none
    | none => Option.bind (tk.xs[i]?) fun y => match (cellsOf tk.t y)[o]? with
     | some (.pv (.sl r) x) => match lookT s.T d with
      | none => match E.res d with
       | true => none
       | false => (match p with
       | [] => K { s with T := setT (setT s.T n (some (.live { tk with tr := some ((i, o, d) :: hs) }))) d (some (.live ⟨r, x, e, true, true, bif r.flatB then none else some []⟩)) }
       | _ :: _ => match ixOf (getA s.L ix) with
        | some j => outRun E p d j { s with T := setT (setT s.T n (some (.live { tk with tr := some ((i, o, d) :: hs) }))) d (some (.live ⟨r, x, e, true, true, bif r.flatB then none else some []⟩)) } K
        | none => none)
      | some _ => none
     | _ => none
   | none => none
  | _ => none
def ghostRun {ρ : Type} (E : Env) : List Ghost → LSt → (LSt → Option ρ) → Option ρ
 | [], s, K => K s
 | .out sl p :: gs, s, K => match getA s.L sl with
  | .mptr n i _ => outRun E p n i s fun s => ghostRun E gs s K
  | _ => none
 | .thaw k c :: gs, s, K => match lookB s.B k with
  | some b => match b.cs[c]? with
   | some (.mtk n) => match lookT s.T n with
    | some (.live tk) => match tk.tr with
     | some [] => ghostRun E gs { s with T := setT s.T n (some (.live tk.thaw)) } K
     | some (_ :: _) => none
     | none => ghostRun E gs s K
    | _ => none
   | _ => none
  | none => none
def hgt1 {ρ : Type _} (x : ρ) : ρ := x
def hgt2 {ρ : Type _} (x : ρ) : ρ := hgt1 x
def hgt3 {ρ : Type _} (x : ρ) : ρ := hgt2 x
def hgt4 {ρ : Type _} (x : ρ) : ρ := hgt3 x
def hgt5 {ρ : Type _} (x : ρ) : ρ := hgt4 x
def hgt6 {ρ : Type _} (x : ρ) : ρ := hgt5 x
def forceL {α ρ : Type _} : List α → (List α → ρ) → ρ
 | [], K => K (hgt6 [])
 | x :: l, K => forceL l fun l' => K (x :: l')
def LSt.tidy {ρ : Type _} (s : LSt) (K : LSt → ρ) : ρ := forceL s.L fun L => forceL s.B fun B => forceL s.T fun T => K ⟨L, B, T⟩
def Hint.ghosts : Hint → List Ghost
 | .touch gs => gs
 | _ => []
def runC {ρ : Type} (N : Nat) (E : Env) (ok : List Oper → List FP → Bool) : Code → Hint → LSt → (Exit → LSt → Option ρ) → Option ρ
 | .skip, _, s, K => K .normal s
 | .region _ ops draw, h, s, K => ghostRun E h.ghosts s fun s => runOps E ops ops.toList s [] fun s' fps => match draw with
  | true => (match ok ops.toList fps with
   | true => s'.tidy (K .normal)
   | false => none)
  | false => s'.tidy (K .normal)
 | .seq x y, h, s, K => match h.seqs with
  | (none, hx, hy) => runC N E ok x hx s fun e s' => match e with
   | .normal => runC N E ok y hy s' K
   | e => K e s'
  | (some sh, hx, hy) =>
   meet (fun g : HD sh.codes => runC N E ok y hy (sh.mk' g) K) fun J => runC N E ok x hx s fun e s' => match e with
    | .normal => (match sh.to E s' with
     | some g => J g
     | none => none)
    | e => K e s'
 | .cond c x y, h, s, K => match s.ev c with
  | .pv .bool b => (match b with
   | true => runC N E ok x h.conds.1 (setOp s c true) K
   | false => runC N E ok y h.conds.2 (setOp s c false) K)
  | _ => none
 | .block id b, h, s, K => runC N E ok b h.blk s fun e s' => match e with
  | .exit j => (match Nat.beq j id with
   | true => K .normal s'
   | false => K (.exit j) s')
  | e => K e s'
 | .exit id, _, s, K => K (.exit id) s
 | .ret, _, s, K => K .ret s
 | .label _, _, s, K => K .normal s
 | .loop b, h, s, K => match h with
  | .loop sh hb => (match sh.to E s with
   | some g0 => iter (fun go g => runC N E ok b hb (sh.mk' g) fun e s' => match e with
    | .normal => (match sh.to E s' with
     | some g => go g
     | none => none)
    | e => K e s') N g0
   | none => none)
  | _ => none
 | _, _, _, _ => none
def AV.one? : AV → Option AV
 | .tup _ => none
 | x => some x
def resOne (E : Env) (s : LSt) : ResultVar → Option AV
 | .tmp t => (getA s.L t).one?
 | .cell a T => match getA s.L a, E.ty T with
  | .box k o, some ty => if mapName k then none else match lookB s.B k with
   | some b => if ty.agg then (if o + ty.size ≤ b.cs.length then some (.agg ((b.cs.drop o).take ty.size)) else none) else b.cs[o]?
   | none => none
  | _, _ => none
def resL (E : Env) (s : LSt) : List ResultVar → Option (List AV)
 | [] => some []
 | r :: l => match resOne E s r, resL E s l with
  | some x, some xs => some (x :: xs)
  | _, _ => none
def resA (E : Env) (s : LSt) (rs : List ResultVar) : Option AV :=
 match resL E s rs with
 | some [x] => some x
 | some xs => some (.tup xs)
 | none => none
def extras : List VS → List (Nat × Option TS) → List AV
 | [], _ => []
 | .mtk n _ _ _ :: l, T => (if liveB (lookT T n) then .mtk n else .dead) :: extras l T
 | .tre n _ _ :: l, T => (if liveB (lookT T n) then .mtk n else .dead) :: extras l T
 | _ :: l, T => .dead :: extras l T
def runF (N : Nat) (E : Env) (ok : List Oper → List FP → Bool) (fn : Func) (c : Code) (h : Hint) (arg ret : Sh) (a : HD arg.codes) : Option (HD ret.codes) :=
 let s := arg.mk' a
 runC N E ok c h ⟨s.L ++ List.replicate (fn.ntmps - s.L.length) (.tup []), s.B, s.T⟩ fun e s' => match e with
  | .normal | .ret => match resA E s' fn.results.toList with
   | some v => ret.to0 E ⟨v :: extras ret.vals.tail s'.plug.T, s'.B, s'.plug.T⟩
   | none => none
  | _ => none
end Go.Proofs.YtcjbjmbialienaaGreatDoor
