
import Derived.WalkKit
import Derived.WalkSpells
import Derived.WalkLawsBesides
import Derived.Deep.RegionHeld3
import Derived.Deep.RegionLaw
import Derived.Deep.RegionWith
import Derived.Deep.DeepCutAuto
import Derived.Deep.LoopGhost
import Derived.Deep.QuietTactic
import Derived.BigQuiet
import Derived.Lib.Hide
import Derived.Handy
import Derived.Test.YtnkagklajgimlaaGreatDoorRows
import Derived.ProofKit
import Derived.Deep.Slices
import Derived.ChangeOld
set_option linter.unusedSimpArgs false
set_option linter.unusedVariables false
namespace Go.Proofs.YtnkagklajgimlaaGreatDoor
abbrev E3 := @Array.getElem?_eq_getElem
abbrev rN := @Array.getElem?_eq_some_iff
abbrev jQ := @Array.getElem?_toList
abbrev lz := @Array.length_toList
abbrev a6 := @Bool.and_eq_true
abbrev rR := @Bool.and_false
abbrev rO := @Bool.and_self
abbrev fD := @Bool.and_true
abbrev ma := @Bool.eq_iff_iff
abbrev pf := @Bool.false_and
abbrev nY := @Bool.false_eq_true
abbrev fL := @Bool.false_or
abbrev nZ := @Bool.not_eq_true'
abbrev dH := @Bool.not_false
abbrev bf := @Bool.not_true
abbrev lu := @Bool.or_eq_true
abbrev cl := @Bool.true_and
abbrev ly := @Bool.true_or
abbrev wz := @Int.emod_eq_of_lt
abbrev E5 := @Int.fdiv_eq_ediv_of_nonneg
abbrev ic := @Int.le_refl
abbrev bm := @Int.lt_irrefl
abbrev n3 := @Int.natCast_mul
abbrev E2 := @Int.tdiv_eq_ediv_of_nonneg
abbrev eg := @Int.toNat_natCast
abbrev qj := @Int.toNat_of_nonneg
abbrev l9 := @List.Pairwise.nil
abbrev cz := @List.all_eq_true
abbrev qh := @List.any_cons
abbrev qg := @List.any_eq_false
abbrev e5 := @List.append_assoc
abbrev fe := @List.append_nil
abbrev kp := @List.cons_append
abbrev qm := @List.drop_drop
abbrev eY := @List.drop_eq_getElem_cons
abbrev mf := @List.drop_eq_nil_of_le
abbrev me := @List.drop_length
abbrev rP := @List.drop_zero
abbrev zt := @List.eq_nil_of_length_eq_zero
abbrev tO := @List.ext_getElem?
abbrev tK := @List.filterMap_cons
abbrev jP := @List.filter_append
abbrev iY := @List.filter_cons
abbrev tM := @List.filter_cons_of_neg
abbrev tL := @List.filter_cons_of_pos
abbrev n0 := @List.find?_cons
abbrev wv := @List.find?_eq_none
abbrev wA := @List.flatMap_append
abbrev lA := @List.flatMap_cons
abbrev hW := @List.foldl_append
abbrev eZ := @List.foldl_cons
abbrev n1 := @List.getD_eq_getElem?_getD
abbrev kN := @List.getElem?_append_left
abbrev lx := @List.getElem?_append_right
abbrev hV := @List.getElem?_drop
abbrev bG := @List.getElem?_eq_getElem
abbrev kM := @List.getElem?_eq_none
abbrev dB := @List.getElem?_eq_some_iff
abbrev iC := @List.getElem?_map
abbrev hU := @List.getElem?_take
abbrev E1 := @List.getElem?_zip_eq_some
abbrev br := @List.getElem_mem
abbrev E4 := @List.isPrefixOf_iff_prefix
abbrev bh := @List.length_append
abbrev ba := @List.length_cons
abbrev eF := @List.length_drop
abbrev wu := @List.length_eq_zero_iff
abbrev tJ := @List.length_filterMap_le
abbrev ho := @List.length_filter_le
abbrev dE := @List.length_map
abbrev bH := @List.length_nil
abbrev zv := @List.length_replicate
abbrev pb := @List.length_set
abbrev bS := @List.length_singleton
abbrev bN := @List.length_take
abbrev ib := @List.map_append
abbrev l8 := @List.map_congr_left
abbrev cw := @List.map_cons
abbrev mb := @List.map_map
abbrev qn := @List.map_nil
abbrev cE := @List.mem_append
abbrev fc := @List.mem_append_left
abbrev lv := @List.mem_append_right
abbrev bn := @List.mem_cons
abbrev ch := @List.mem_cons_of_mem
abbrev cb := @List.mem_cons_self
abbrev gH := @List.mem_filter
abbrev rQ := @List.mem_filterMap
abbrev js := @List.mem_flatMap
abbrev eb := @List.mem_iff_getElem
abbrev tP := @List.mem_iff_getElem?
abbrev cg := @List.mem_map
abbrev ql := @List.mem_of_find?_eq_some
abbrev fY := @List.mem_of_getElem?
abbrev qi := @List.mem_of_mem_drop
abbrev fC := @List.mem_of_mem_take
abbrev du := @List.mem_singleton
abbrev fE := @List.nil_append
abbrev n2 := @List.nodup_cons
abbrev en := @List.pairwise_cons
abbrev gx := @List.pairwise_iff_getElem
abbrev qk := @List.pairwise_map
abbrev ko := @List.take_append_drop
abbrev cj := @List.take_length
abbrev jS := @List.take_of_length_le
abbrev tQ := @List.take_sublist
abbrev hX := @List.take_succ_cons
abbrev dT := @List.take_succ_eq_append_getElem
abbrev mY := @Nat.add_assoc
abbrev eE := @Nat.add_mul
abbrev mX := @Nat.add_sub_cancel
abbrev lC := @Nat.add_zero
abbrev tR := @Nat.div_add_mod
abbrev nX := @Nat.div_le_self
abbrev wx := @Nat.div_lt_iff_lt_mul
abbrev zu := @Nat.eq_of_beq_eq_true
abbrev bE := @Nat.le_refl
abbrev dS := @Nat.le_trans
abbrev mc := @Nat.lt_of_lt_of_le
abbrev pd := @Nat.lt_trichotomy
abbrev pg := @Nat.min_eq_left
abbrev mg := @Nat.mod_lt
abbrev lB := @Nat.mul_comm
abbrev tN := @Nat.mul_le_mul
abbrev ek := @Nat.mul_le_mul_right
abbrev pc := @Nat.not_lt_zero
abbrev wy := @Nat.xor_lt_two_pow
abbrev gV := @Nat.zero_add
abbrev bg := @Nat.zero_le
abbrev jR := @Option.bind_eq_some_iff
abbrev ag := @Option.bind_some
abbrev mW := @Option.getD_some
abbrev hT := @Option.map_eq_some_iff
abbrev pe := @Option.map_some
abbrev gy := @Option.ne_none_iff_exists'
abbrev iB := @Option.some.injEq
abbrev aj := @cond_false
abbrev ao := @cond_true
abbrev an := @decide_eq_false
abbrev aq := @decide_eq_true
abbrev bo := @decide_eq_true_eq
abbrev aC := @if_neg
abbrev ai := @if_pos
open Go.RowKit
abbrev fM :=Nat->Prop
def Wa (p:fM) (w w':World):Prop:=∀b,p b->w'.heap[b]? =w.heap[b]?
structure hF (p:fM) (w w':World):Prop where
 os:w'.os=w.os
 tape:w'.tape=w.tape
 output:w'.output=w.output
 size:w.heap.size<=w'.heap.size
 block:∀k,k<w.heap.size->¬p k->w'.heap[k]? =w.heap[k]?
theorem hF.refl (p:fM) (w:World):hF p w w:=⟨rfl,rfl,rfl,bE _,fun _ _ _=>rfl⟩
theorem hF.JI {p:fM} {a b:World} (h:Below a.heap.size a b):hF p a b:=⟨h.os,h.tape,h.output,h.size,fun k y _=>h.block k y⟩
theorem lt_of_cell {w:World} {b o:Nat} {v:Value} (h:w.cell? ⟨b,o,none⟩=some v):b<w.heap.size:=World.block_lt_of_cell? _ _ h
theorem rj {w:World} {b:Nat} {o:Obj} (h:w.heap[b]? =some o):b<w.heap.size:=(rN.1 h).1
theorem r0 {W ev:World} (av:Below W.heap.size W ev):(∀b o,b<W.heap.size->ev.cell? ⟨b,o,none⟩=W.cell? ⟨b,o,none⟩)/\(∀b o,b<W.heap.size->ev.frozen? ⟨b,o,none⟩=W.frozen? ⟨b,o,none⟩):=
 ⟨fun b o h=>av.cell (p:=⟨b,o,none⟩) h,fun b o h=>av.frozen (p:=⟨b,o,none⟩) h⟩
abbrev mh (α:Type):=World->List Value->α->fM->Prop
structure Good {α:Type} (m:Nat) (C:mh α):Prop where
 len:∀ {w:World} {cs:List Value} {x:α} {p:fM},C w cs x p->cs.length=m
 one:∀ {w:World} {cs:List Value} {x:α} {p:fM},C w cs x p->∀u,u∈cs->u.oneCell'=true
 same:∀ {w w':World} {cs:List Value} {x:α} {p:fM},C w cs x p->Wa p w w'->C w' cs x p
 mono:∀ {w:World} {cs:List Value} {x:α} {p q:fM},C w cs x p->(∀k,p k->q k)->C w cs x q
 bound:∀ {w:World} {cs:List Value} {x:α} {p:fM},C w cs x p->C w cs x (fun k=>p k/\k<w.heap.size)
def wK {α:Type} (m:Nat) (C:mh α) (w:World) (v:Value) (xs:List α) (p:fM):Prop:=
 ∃a cap,v= .slice a xs.length cap/\(xs.length<=9223372036854775807/\xs.length<=cap)/\∀i x,xs[i]? =some x->
  ∃b o cs,a=some ⟨b,o,none⟩/\p b/\b<w.heap.size/\cs.length=m/\(∀j c,cs[j]? =some c->w.cell? ⟨b,o+i*m+j,none⟩=some c)/\C w cs x p
def V9 {α:Type} (m:Nat) (C:mh α) (w:World) (v:Value) (xs:List α) (p:fM):Prop:=
 ∃a cap,v= .slice a xs.length cap/\(xs.length<=9223372036854775807/\xs.length<=cap)/\(xs=[]\/ ∃b o,∃q:Nat->fM,a=some ⟨b,o,none⟩/\p b/\b<w.heap.size/\(∀j,w.frozen? ⟨b,j,none⟩=false)/\
  (∀i,¬q i b)/\(∀i k,q i k->p k)/\(∀i j k,i≠j->q i k->¬q j k)/\∀i x,xs[i]? =some x->
   ∃cs,cs.length=m/\(∀j c,cs[j]? =some c->w.cell? ⟨b,o+i*m+j,none⟩=some c)/\C w cs x (q i))
section
variable {α : Type} {m : Nat} {C : mh α} {w w' : World} {v : Value} {xs : List α} {p q : fM}
theorem wK.nil (w:World) (a:Option Addr) (cap:Nat) (p:fM):wK m C w (.slice a 0 cap) [] p:=⟨a,cap,rfl,by simp,fun i x h=>by simp at h⟩
end
section
variable {α : Type} {base e m : Nat} {C : mh α} {w w' : World} {v fr : Value} {xs : List α} {p : fM}
theorem MI {β:Type}:∀(y:List (List β)) (m:Nat) (_:∀cs,cs∈y->cs.length=m) (i:Nat) (cs:List β),y[i]? =some cs->∀j c,cs[j]? =some c->y.flatten[i*m+j]? =some c
 | [],_,_,i,cs,h,_,_,_=>by simp at h
 |d::y,m,hm,0,cs,h,j,c,bF=>by
  simp at h;subst h
  have:=(dB.1 bF).1
  simp only[List.flatten_cons,Nat.zero_mul,gV]
  rw[kN this];exact bF
 |d::y,m,hm,i+1,cs,h,j,c,bF=>by
  have bd:d.length=m:=hm d (by simp)
  have z:=MI y m (fun cs h=>hm cs (by simp[h])) i cs (by simpa using h) j c bF
  simp only[List.flatten_cons]
  rw[lx (by rw[bd,eE];omega),bd,show(i+1)*m+j-m=i*m+j from by rw[eE];omega]
  exact z
end
section
variable {P : Program} (w : World)
end
structure asr {α:Type} (C:mh α):Prop where
 all:∀ {w:World} {cs:List Value} {x:α} {p:fM},C w cs x p->∀(w':World) (q:fM),C w' cs x q
section
variable {α : Type} {m : Nat} {C : mh α} {w : World} {v : Value} {xs : List α} {p : fM}
theorem uf (b o j:Nat):(⟨b,o,none⟩:Addr).add j=⟨b,o+j,none⟩:=by unfold Addr.add;split<;>simp_all
theorem FG {β:Type} (f:Nat->β->Prop):∀n,(∀i,i<n->∃y,f i y)->∃l:List β,l.length=n/\∀i y,l[i]? =some y->f i y
 |0,_=>⟨[],rfl,fun i y h=>by simp at h⟩
 |n+1,h=>by
  obtain⟨l,bK,A⟩:=FG f n (fun i hi=>h i (by omega))
  obtain⟨y,hy⟩:=h n (by omega)
  refine⟨l++ [y],by simp[bK],fun i z bL=>?_⟩
  rcases Nat.lt_or_ge i l.length with hi|hi
  .rw [kN hi]at bL;exact A i z bL
  .rw [lx hi]at bL
   have e:i-l.length=0:=by
    rcases Nat.eq_zero_or_pos (i-l.length)with h|h
    .exact h
    .rw [show i-l.length=(i-l.length-1)+1 from by omega]at bL;simp at bL
   rw[e]at bL;simp at bL;subst bL
   obtain rfl:i=n:=by omega
   exact hy
theorem MJ {β:Type}:∀(y:List (List β)) (m:Nat) (_:∀cs,cs∈y->cs.length=m),y.flatten.length=y.length*m
 | [],_,_=>by simp
 |d::y,m,hm=>by
  simp only[List.flatten_cons,bh,ba,eE]
  rw[MJ y m (fun cs h=>hm cs (by simp[h])),hm d (by simp)];omega
end
section
variable {α : Type} {m : Nat} {C : mh α} {w : World} {xs : List α} {p : fM} {b o n cap : Nat}
end
structure Prog (b lo hi:Nat) (q:fM) (W w:World):Prop where
 eD:hF (fun k=>k=b\/q k) W w
 frozen:∀j,w.frozen? ⟨b,j,none⟩=W.frozen? ⟨b,j,none⟩
 j6:∀j,(j<lo\/hi<=j)->w.cell? ⟨b,j,none⟩=W.cell? ⟨b,j,none⟩
structure asp {α:Type} (m:Nat) (C:mh α) (w:World) (v:Value) (xs:List α) (p:fM) (i b o:Nat) (r:fM):Prop where
 atA:p b
 lt:b<w.heap.size
 atx:∀j,w.frozen? ⟨b,j,none⟩=false
 pS:¬r b
 sub:∀k,r k->p k/\k<w.heap.size
 put:∀(w':World) (iH:List Value) (gm:α) (iT:fM),Prog b (o+i*m) (o+i*m+m) r w w'->(∀j c,iH[j]? =some c->w'.cell? ⟨b,o+i*m+j,none⟩=some c)->C w' iH gm iT->(∀k,iT k->p k/\(r k\/w.heap.size<=k))->V9 m C w' v (xs.set i gm) p
section
variable {α : Type} (mk : α -> Nat -> α) (asK : α -> Nat)
end
section
variable {α : Type} (f : α -> Nat)
end
theorem anY {β:Type} {l:List β} (h:l.length=1):∃c0,l=[c0]:=by
 match l,h with
 | [c0],_=>exact⟨c0,rfl⟩
theorem anZ {β:Type} {l:List β} (h:l.length=2):∃c0 y,l=[c0,y]:=by
 match l,h with
 | [c0,y],_=>exact⟨c0,y,rfl⟩
theorem ao9 :ownKnob Tryz.prog.godebug=none:=by kernel_rfl
theorem yv :laidOutB Tryz.prog=true:=by kernel_rfl
section
variable {H : Type} {enc : TypeId × Value -> H} {P : Program} {w : World} {spare : Nat -> Bool} {held : Bool}
theorem aqd {fuel:Nat} {t e:TypeId} {cs:List Value} {x:DataW H×List MemPlace} {α:Type} {m:Nat} {C:mh α} (K:0<m) (az:P.underlying t=some (.slice e)) (hm:P.cellsOf e=m)
  (M:∀(n:Nat) (cs:List Value) (y:DataW H×List MemPlace),DataW.trod enc P w 0 spare held n e cs=some y->cs.length=m->∃d:α,C w cs d (fun _=>True))
  (h:DataW.trod enc P w 0 spare held fuel t cs=some x):∃v xs,cs=[v]/\wK m C w v xs (fun _=>True):=by
 rcases DataW.trod_slice az h with⟨rfl,_⟩|⟨a,len,cap,elems,rest,n,_,rfl,_,_,bK,O,hlen,he,_⟩
 .exact ⟨_,[],rfl,wK.nil _ _ _ _⟩
 .rw [hm]at he
  obtain⟨xs,Q,bb⟩:=FG (fun i (d:α)=>∃iH,w.cells? 0 (a.add (i*m)) m=some iH/\C w iH d (fun _=>True)) len (fun i hi=>by
   have G:=he i hi
   rw[bG (by omega)]at G
   obtain⟨iH,I,U⟩:=jR.1 G
   obtain⟨d,bd⟩:=M n iH _ U (World.cells?_some I).2.1
   exact⟨d,iH,I,bd⟩)
  refine⟨_,xs,rfl,some a,cap,by rw[Q],by simp only[maxLen]at O;exact⟨by omega,by omega⟩,fun i d bd=>?_⟩
  obtain⟨iH,G,I⟩:=bb i d bd
  obtain⟨_,V,bF⟩:=World.cells?_some G
  have z:∀j c,iH[j]? =some c->w.cell? (a.add (i*m+j))=some c:=by
   intro j c J
   obtain⟨Y,rfl⟩:=dB.1 J
   rw[<-Addr.add_add]
   exact(bF j (by omega)).trans J
  obtain⟨b,o,rfl⟩:∃b o,a=⟨b,o,none⟩:=by
   have hi:i<len:=by have:=(dB.1 bd).1;omega
   obtain⟨Z,cW,_⟩:=bb 0 (xs[0]'(by omega)) (by simp)
   obtain⟨_,vv,Db⟩:=World.cells?_some cW
   have A:=Db 0 K
   rw[bG (by omega),Addr.add_add]at A
   obtain⟨b,o,sp⟩:=a
   cases sp with
   |none=>exact⟨b,o,rfl⟩
   |some sp=>
    exfalso
    simp only[World.cell?,Addr.add,Nat.zero_mul,lC,if_true]at A
    split at A
    .simp at A
    .cases A
  have av:b<w.heap.size:=by
   have A:=z 0 (iH[0]'(by omega)) (by simp)
   rw[uf]at A
   exact lt_of_cell A
  exact⟨b,o,iH,rfl,trivial,av,V,fun j c J=>by rw[mY,<-uf];exact z j c J,I⟩
end
inductive aN where
 |mk (kind:Int) (field:List UInt8) (words:List (List UInt8)) (as7 atI:Int) (kids:List aN)
inductive aJ where
 |bool
 |int (k:IntKind)
 |str
 |unit
 |pair (a b:aJ)
 |ar (r:aJ)
 |opt (r:aJ)
 |q
 deriving DecidableEq
@[reducible] def aJ.D : aJ -> Type
 | .bool=>Bool
 | .int _=>Int
 | .str=>List UInt8
 | .unit=>Unit
 | .pair a b=>a.D×b.D
 | .ar r=>List r.D
 | .opt r=>Option r.D
 | .q=>aN
def aJ.w :aJ->Nat
 | .unit=>0
 | .pair a b=>a.w+b.w
 | .q=>6
 |_=>1
def aJ.ct :aJ->Bool
 | .pair a b=>a.ct&&b.ct
 | .ar _=>false
 | .opt _=>false
 | .q=>false
 |_=>true
inductive b6 where
 |bool (b:Bool)
 |int (k:IntKind) (n:Int)
 |str (s:ByteArray)
 |ar (rows:List (List b6))
 |opt (row:Option (List b6))
def b6.flat :b6->Prop
 | .ar rows=>rows=[]
 | .opt _=>False
 |_=>True
def bytes (l:List UInt8):ByteArray:=⟨l.toArray⟩
mutual
def Al :aN->List b6
 | .mk k f ws a b kids=>[.int .i64 k,.str (bytes f),.ar (ws.map fun w=>[.str (bytes w)]),.int .i64 a,.int .i64 b,.ar (Am kids)]
def Am :List aN->List (List b6)
 | []=>[]
 |x::xs=>Al x::Am xs
end
def enc :(t:aJ)->t.D->List b6
 | .bool,b=>[.bool b]
 | .int k,n=>[.int k n]
 | .str,s=>[.str (bytes s)]
 | .unit,_=>[]
 | .pair a b,x=>enc a x.1++enc b x.2
 | .ar r,xs=>[.ar (xs.map (enc r))]
 | .opt r,x=>[.opt (x.map (enc r))]
 | .q,x=>Al x
def aJ.h2 :(t:aJ)->t.D->t.D->Bool
 | .bool,a,b=>a==b
 | .int _,a,b=>decide (a=b)
 | .str,a,b=>decide (a=b)
 | .unit,_,_=>true
 | .pair a b,x,y=>a.h2 x.1 y.1&&b.h2 x.2 y.2
 | .ar _,_,_=>false
 | .opt _,_,_=>false
 | .q,_,_=>false
def b6.isLit :b6->Bool
 | .ar _=>false
 | .opt _=>false
 |_=>true
def fw :b6->Value
 | .bool b=>.bool b
 | .int k n=>.int k n
 | .str s=>.string s
 |_=>undef
inductive au where
 |dead
 |af (t:aJ) (x:t.D)
 |aT
 |eQ
 |agg (cs:List au)
 |bR (cs:List au)
 |box (k o:Nat)
 |ptr (t:aJ) (x:t.D) (o:Nat)
 |own (n:Nat) (t:aJ) (xs:List t.D)
 |ay (n:Nat)
 |fx (n i o:Nat)
 |jd (g:Nat)
 |aV (f:FuncId) (cs:List au)
 |sub (n l h:Nat)
inductive tZ where
 |row (t:aJ) (x:t.D)
 |map (dZ dG:aJ) (agg:Bool) (es:List (dZ.D×dG.D))
 |gv (k:IntKind) (zs:List Int)
 |cell (p:Value->Prop)
def aN.kind :aN->Int
 | .mk k _ _ _ _ _=>k
def aN.field :aN->List UInt8
 | .mk _ f _ _ _ _=>f
def aN.words :aN->List (List UInt8)
 | .mk _ _ ws _ _ _=>ws
def aN.lo :aN->Int
 | .mk _ _ _ a _ _=>a
def aN.hi :aN->Int
 | .mk _ _ _ _ b _=>b
def aN.kids :aN->List aN
 | .mk _ _ _ _ _ l=>l
def W3 (x:aN):List au:=[.af (.int .i64) x.kind,.af .str x.field,.af (.ar .str) x.words,.af (.int .i64) x.lo,.af (.int .i64) x.hi,.af (.ar .q) x.kids]
def cellsOf :(t:aJ)->t.D->List au
 | .unit,_=>[]
 | .pair a b,x=>cellsOf a x.1++cellsOf b x.2
 | .q,x=>W3 x
 | .bool,x=>[.af .bool x]
 | .int k,x=>[.af (.int k) x]
 | .str,x=>[.af .str x]
 | .ar r,x=>[.af (.ar r) x]
 | .opt r,x=>[.af (.opt r) x]
def au.as (t:aJ):au->Option t.D
 | .af dj x=>if h:dj=t then some (h▸x)else none
 | .own _ r xs=>if h:aJ.ar r=t then some (h▸(show(aJ.ar r).D from xs))else none
 | .aT=>match t with
  | .ar r=>some ([]:List r.D)
  |_=>none
 | .eQ=>match t with
  | .opt r=>some (none:Option r.D)
  |_=>none
 | .ptr r x o=>if h:aJ.opt r=t/\o=0 then some (h.1▸(show(aJ.opt r).D from some x))else none
 |_=>none
def Dp :List au->Option aN
 | [k,f,ws,a,b,kids]=>match k.as (.int .i64),f.as .str,ws.as (.ar .str),a.as (.int .i64),b.as (.int .i64),kids.as (.ar .q)with
  |some k,some f,some ws,some a,some b,some kids=>some (.mk k f ws a b kids)
  |_,_,_,_,_,_=>none
 |_=>none
def one (t:aJ):List au->Option t.D
 | [c]=>c.as t
 |_=>none
def hN :(t:aJ)->List au->Option t.D
 | .unit,cs=>match cs with
  | []=>some ()
  |_=>none
 | .pair a b,cs=>match hN a (cs.take a.w),hN b (cs.drop a.w)with
  |some x,some y=>some (x,y)
  |_,_=>none
 | .q,cs=>Dp cs
 | .bool,cs=>one .bool cs
 | .int k,cs=>one (.int k) cs
 | .str,cs=>one .str cs
 | .ar r,cs=>one (.ar r) cs
 | .opt r,cs=>one (.opt r) cs
def gone :Nat:=4000000000
structure Tok where
 t:aJ
 xs:List t.D
 e:TypeId
 wr:Bool
 deep:Bool
 tr:Option (List (Nat×Nat×Nat))
def Tok.jz (aa:Tok):Tok:={aa with wr:=false,tr:=none}
def Tok.whole (aa:Tok):Bool:=match aa.tr with
 |none=>true
 |some []=>true
 |_=>false
def Tok.cu (aa:Tok):Tok:=bif aa.whole then aa.jz else aa
theorem Tok.Ax {aa:Tok} (h:aa.whole=true):aa.cu=aa.jz:=by unfold Tok.cu;rw[h];rfl
theorem Tok.Ys (aa:Tok):aa.cu.t=aa.t:=by unfold Tok.cu;cases aa.whole<;>rfl
theorem Tok.Yq (aa:Tok):aa.cu.e=aa.e:=by unfold Tok.cu;cases aa.whole<;>rfl
theorem Tok.Yp (aa:Tok):aa.cu.deep=aa.deep:=by unfold Tok.cu;cases aa.whole<;>rfl
theorem Tok.Yr (aa:Tok):(⟨aa.cu.t,aa.cu.xs⟩:(t:aJ)×List t.D)=⟨aa.t,aa.xs⟩:=by unfold Tok.cu;cases aa.whole<;>rfl
theorem Tok.asc {aa:Tok} (h:aa.whole=true) {aU:List (Nat×Nat×Nat)} (az:aa.tr=some aU):aU=[]:=by
 unfold Tok.whole at h
 rw[az]at h
 cases aU with
 |nil=>rfl
 |cons _ _=>cases h
inductive bc where
 |ej
 |live (aa:Tok)
structure cm where
 cu:Bool
 cs:List au
structure bP where
 val:au
 box:List (Nat×cm)
 tok:List (Nat×Option bc)
structure dc where
 aE:List Nat
 hQ:List Nat
 rt:List Nat
 wt:List Nat
def gC (k:Nat):Bool:=Nat.ble 1000000000 k
def h6 (k:Nat):Nat:=bif Nat.ble 2000000000 k then 2 else bif Nat.ble 1000000000 k then 1 else 0
theorem s5 {k:Nat}:gC k=false↔h6 k=0:=by
 unfold gC h6
 cases h:Nat.ble 1000000000 k with
 |false=>
  cases y:Nat.ble 2000000000 k with
  |false=>simp
  |true=>simp only[Nat.ble_eq]at y;rw[<-Bool.not_eq_true,Nat.ble_eq]at h;omega
 |true=>cases Nat.ble 2000000000 k<;>simp
theorem RU {k aL:Nat} (h:h6 k=h6 aL):gC k=gC aL:=by
 cases y:gC k with
 |false=>exact(s5.2 (h▸s5.1 y)).symm
 |true=>cases z:gC aL with
  |true=>rfl
  |false=>rw[s5.2 (h▸s5.1 z)]at y;cases y
def R3 (n m:Nat):List Nat:=(List.range n).filter fun i=> !m.testBit i
noncomputable def Wt {ρ:Type} (xs:List Nat) (F:Nat->Option ρ):Option ρ:=open Classical in if h:xs≠ []/\∃r,∀i,i∈xs->F i=some r then some (Classical.choose h.2)else none
def dU :List au->Nat->au
 | [],_=>.dead
 |x::_,0=>x
 |_::l,n+1=>dU l n
def kl :List au->Nat->au->List au
 | [],_,_=>[]
 |_::l,0,v=>v::l
 |x::l,n+1,v=>x::kl l n v
def aZ :List (Nat×cm)->Nat->Option cm
 | [],_=>none
 |(k,b)::l,j=>if j=k then some b else aZ l j
def vW :List (Nat×cm)->Nat->cm->List (Nat×cm)
 | [],k,b=>[(k,b)]
 |(j,c)::l,k,b=>if j=k then(k,b)::l else(j,c)::vW l k b
def aH :List (Nat×Option bc)->Nat->Option bc
 | [],_=>none
 |(k,x)::l,j=>if j=k then x else aH l j
def jL :List (Nat×Option bc)->Nat->Option bc->List (Nat×Option bc)
 | [],k,x=>[(k,x)]
 |(j,y)::l,k,x=>if j=k then(k,x)::l else(j,y)::jL l k x
structure aY where
 L:List au
 B:List (Nat×cm)
 T:List (Nat×Option bc)
def aY.app (s:aY) (d:Option Nat) (e:bP):aY:=
 ⟨match d with|some d=>kl s.L d e.val|none=>s.L,e.box.foldl (fun B x=>vW B x.1 x.2) s.B,e.tok.foldl (fun T x=>jL T x.1 x.2) s.T⟩
end Go.Proofs.YtnkagklajgimlaaGreatDoor
namespace Go.Proofs.YtnkagklajgimlaaGreatDoor
def q4 (v:Value):Prop:=∃m,v= .int .i64 m
def sH (v:Value):Prop:=v= .nilIface\/ ∃y z,v= .iface y z
def gg :List (Int×(Bool×Int×Int×Int×Int×Bool×Int×Int)):=[((1:Int),(false,(0:Int),(0:Int),(0:Int),(0:Int),false,(0:Int),(0:Int))),((2:Int),(true,(1:Int),(1:Int),(0:Int),(0:Int),false,(0:Int),(0:Int))),((3:Int),(true,(2:Int),(4:Int),(0:Int),(5:Int),false,(0:Int),(0:Int))),((4:Int),(true,(1:Int),(1:Int),(1:Int),(2:Int),false,(0:Int),(0:Int))),((5:Int),(true,(1:Int),(1:Int),(0:Int),(0:Int),false,(0:Int),(0:Int))),((6:Int),(true,(0:Int),(0:Int),(0:Int),(999999999:Int),true,(0:Int),(0:Int))),((7:Int),(false,(0:Int),(0:Int),(0:Int),(0:Int),false,(2:Int),(4:Int))),((8:Int),(false,(0:Int),(0:Int),(0:Int),(0:Int),false,(2:Int),(4:Int))),((9:Int),(false,(0:Int),(0:Int),(0:Int),(0:Int),false,(2:Int),(2:Int))),((10:Int),(false,(0:Int),(0:Int),(2:Int),(9:Int),false,(1:Int),(1:Int)))]
def nh :List (Int×List UInt8):=[((7:Int),([97,110,100]:List UInt8)),((8:Int),([111,114]:List UInt8)),((9:Int),([108,101,115,115]:List UInt8)),((10:Int),([116,105,109,101,115]:List UInt8))]
def ov :List (Nat×tZ):=[
 (6,.row (.pair (.int .i64) (.int .i64)) ((0:Int),(1:Int))),
 (0,.map (.int .i64) (.pair .bool (.pair (.int .i64) (.pair (.int .i64) (.pair (.int .i64) (.pair (.int .i64) (.pair .bool (.pair (.int .i64) (.int .i64)))))))) true gg),
 (1,.map (.int .i64) .str false nh),
 (2,.gv .u64 [1,10,100,1000,10000,100000,1000000,10000000,100000000,1000000000,10000000000,100000000000,1000000000000,10000000000000,100000000000000,1000000000000000,10000000000000000,100000000000000000,1000000000000000000,10000000000000000000]),
 (5,.cell q4),
 (3,.cell sH),
 (4,.cell sH),
 ]
end Go.Proofs.YtnkagklajgimlaaGreatDoor
namespace Go.Proofs.YtnkagklajgimlaaGreatDoor
open Go.RowKit
structure bt where
 agg:Bool
 size:Nat
 zero:List au
 elem:Option (TypeId×aJ×Nat)
 jk:List (Nat×Nat)
 str:Bool
 bool:Bool
 int:Option IntKind
 eqs:Option aJ
 mp:Option (TypeId×TypeId×aJ×aJ)
 ptr:Bool
 xb:List (TypeId×Nat)
 AB:Option (TypeId×TypeId×aJ×aJ×Bool)
inductive cc where
 |dead
 |af (t:aJ)
 |aT
 |eQ
 |box (k o:Nat)
 |ptr (t:aJ)
 |own (n:Nat) (t:aJ) (e:TypeId) (deep:Bool)
 |ay (n:Nat) (t:aJ) (e:TypeId) (deep:Bool)
 |kJ (n:Nat) (t:aJ) (e:TypeId)
 |rK (n:Nat) (t:aJ) (e:TypeId)
 |agg (l:List cc)
 |bR (l:List cc)
 |aV (f:FuncId) (l:List cc)
structure aw where
 vals:List cc
 boxes:List (Nat×Bool×List cc)
def S6 :List aJ->aJ
 | []=>.unit
 | [t]=>t
 |t::u::l=>.pair t (S6 (u::l))
mutual
def cc.ft :cc->List aJ
 | .af t=>[t]
 | .ptr t=>[t]
 | .own _ t _ _=>[.ar t]
 | .ay _ t _ _=>[.ar t]
 | .kJ _ t _=>[.ar t]
 | .rK _ t _=>[.pair (.ar t) (.int .i64)]
 | .agg l=>cc.qF l
 | .bR l=>cc.qF l
 | .aV _ l=>[S6 (cc.qF l)]
 |_=>[]
def cc.qF :List cc->List aJ
 | []=>[]
 |v::l=>v.ft++cc.qF l
end
def LH :List (Nat×Bool×List cc)->List aJ
 | []=>[]
 |b::l=>cc.qF b.2.2++LH l
def aw.ft (s:aw):List aJ:=cc.qF s.vals++LH s.boxes
@[reducible] def gp : List aJ -> Type
 | []=>Unit
 | [t]=>t.D
 |t::u::l=>t.D×gp (u::l)
abbrev gY :=(t:aJ)×t.D
def unpack :(l:List aJ)->gp l->List gY
 | [],_=>[]
 | [t],x=>[⟨t,x⟩]
 |t::u::l,x=>⟨t,x.1⟩::unpack (u::l) x.2
def pack :(l:List aJ)->List gY->Option (gp l)
 | [],ps=>match ps with
  | []=>some ()
  |_=>none
 | [t],ps=>match ps with
  | [p]=>if h:p.1=t then some (h▸p.2)else none
  |_=>none
 |t::u::l,ps=>match ps with
  |p::ps=>if h:p.1=t then match pack (u::l) ps with
    |some y=>some (h▸p.2,y)
    |none=>none
   else none
  | []=>none
def vN :List gY->gY
 | []=>⟨.unit,()⟩
 | [p]=>p
 |p::q::l=>⟨.pair p.1 (vN (q::l)).1,(p.2,(vN (q::l)).2)⟩
def EP :Nat->gY->List gY
 |0,_=>[]
 |1,p=>[p]
 |n+2,⟨.pair a b,x⟩=>⟨a,x.1⟩::EP (n+1) ⟨b,x.2⟩
 |_+2,_=>[]
theorem VB :∀l:List gY,EP l.length (vN l)=l
 | []=>rfl
 | [p]=>rfl
 |p::q::l=>by
  show(⟨p.1,p.2⟩:gY)::EP (l.length+1) (vN (q::l))=_
  rw[show l.length+1=(q::l).length from rfl,VB (q::l)]
def I6 :Option (List (Nat×Nat×Nat))->Option Nat
 |some [(k,m,d)]=>if m=gone/\d=gone then some k else none
 |_=>none
structure Acc where
 ps:List gY
 rt:List (Nat×Option Nat)
 aE:List (Nat×Nat)
 dF:List Nat
 de:List Nat
 mt:List Nat
 hl:List Nat
def bZ {α:Type}:List (Nat×α)->Nat->Option α
 | [],_=>none
 |(k,x)::l,j=>if j=k then some x else bZ l j
section
variable (B : List (Nat × cm)) (T : List (Nat × Option bc))
def zY (a:Acc) (k aL:Nat):Option Acc:=match bZ a.aE k with
 |some j=>if j=aL then some a else none
 |none=>if a.aE.any (fun x=>x.2==aL)then none else some {a with aE:=a.aE++ [(k,aL)]}
def kW (a:Acc) (n:Nat) (y:Option Nat) (p:gY):Option Acc:=match bZ a.rt n with
 |some _=>none
 |none=>if y.isSome&&a.rt.any (fun x=>x.2==y)then none else some {a with rt:=a.rt++ [(n,y)],ps:=a.ps++ [p]}
mutual
def conv :cc->au->Acc->Option Acc
 | .dead,_,a=>some a
 | .af t,x,a=>match x with
  | .ay n=>match aH T n with
   |some (.live aa)=>if aJ.ar aa.t=t/\aa.whole=true then some {a with ps:=a.ps++ [⟨.ar aa.t,aa.xs⟩],de:=a.de++ [n]}else none
   |_=>none
  |x=>match x.as t with
   |some y=>some {a with ps:=a.ps++ [⟨t,y⟩]}
   |none=>none
 | .aT,x,a=>match x with
  | .aT=>some a
  |_=>none
 | .eQ,x,a=>match x with
  | .eQ=>some a
  |_=>none
 | .box k o,x,a=>match x with
  | .box aL I=>if I=o then zY a k aL else none
  |_=>none
 | .ptr t,x,a=>match x with
  | .ptr dj y o=>match hN t (((cellsOf dj y).drop o).take t.w)with
   |some z=>some {a with ps:=a.ps++ [⟨t,z⟩]}
   |none=>none
  | .box k o=>match aZ B k with
   |some b=>match hN t ((b.cs.drop o).take t.w)with
    |some z=>some {a with ps:=a.ps++ [⟨t,z⟩],dF:=a.dF++ [k]}
    |none=>none
   |none=>none
  |_=>none
 | .own n t e deep,x,a=>match x with
  | .own A dj xs=>match aH T A with
   |some (.live aa)=>if dj=t/\aa.e=e/\(deep=true->aa.deep=true)then kW a n (some A) ⟨.ar dj,xs⟩else none
   |_=>none
  | .ay A=>match aH T A with
   |some (.live aa)=>if aa.t=t/\aa.e=e/\(deep=true->aa.deep=true)/\aa.whole=true then(kW a n (some A) ⟨.ar aa.t,aa.xs⟩).map fun a=>{a with de:=a.de++ [A]}else none
   |_=>none
  | .aT=>kW a n none ⟨.ar t,[]⟩
  |_=>none
 | .ay n t e deep,x,a=>match x with
  | .ay A=>match aH T A with
   |some (.live aa)=>if aa.t=t/\aa.e=e/\aa.wr=true/\(deep=true->aa.deep=true)/\aa.tr=none then(kW a n (some A) ⟨.ar aa.t,aa.xs⟩).map fun a=>{a with mt:=a.mt++ [A]}else none
   |_=>none
  | .aT=>kW a n none ⟨.ar t,[]⟩
  |_=>none
 | .kJ n t e,x,a=>match x with
  | .ay A=>match aH T A with
   |some (.live aa)=>if aa.t=t/\aa.e=e/\aa.tr=some []then(kW a n (some A) ⟨.ar aa.t,aa.xs⟩).map fun a=>{a with mt:=a.mt++ [A]}else none
   |_=>none
  | .aT=>kW a n none ⟨.ar t,[]⟩
  |_=>none
 | .rK n t e,x,a=>match x with
  | .ay A=>match aH T A with
   |some (.live aa)=>match I6 aa.tr with
    |some k=>if aa.t=t/\aa.e=e then(kW a n (some A) ⟨.pair (.ar aa.t) (.int .i64),((aa.xs,(k:Int)):List aa.t.D×Int)⟩).map fun a=>{a with mt:=a.mt++ [A]}else none
    |none=>none
   |_=>none
  |_=>none
 | .agg l,x,a=>match x with
  | .agg cs=>gM l cs a
  |_=>none
 | .bR l,x,a=>match x with
  | .bR cs=>gM l cs a
  |_=>none
 | .aV f l,x,a=>match x with
  | .aV g cs=>if g=f then(match gM l cs {a with ps:=[]}with
   |some G=>if G.ps.length=(cc.qF l).length then some {G with ps:=a.ps++ [vN G.ps]}else none
   |none=>none)else none
  |_=>none
def gM :List cc->List au->Acc->Option Acc
 | [],[],a=>some a
 |v::l,x::xs,a=>(conv v x a).bind fun a=>gM l xs a
 |_,_,_=>none
end
def qG :List (Nat×Bool×List cc)->Acc->Option Acc
 | [],a=>some a
 |(k,cu,bT)::l,a=>
  let aL:=(bZ a.aE k).getD k
  match aZ B aL with
  |some b=>if b.cu=true->cu=true then(zY a k aL).bind fun a=>(gM B T bT b.cs {a with dF:=if cu then a.dF++ [aL]else a.dF,hl:=if cu then a.hl else a.hl++ [aL]}).bind fun a=>qG l a else none
  |none=>none
def Li (s:aw) (a:Acc):Bool:=a.mt.all (fun n=> !a.de.contains n)&&a.hl.all (fun k=> !a.dF.contains k)&&a.aE.all (fun x=>s.boxes.any fun b=>b.1==x.1)&&a.aE.all (fun x=>h6 x.1==h6 x.2)&&a.dF.all (fun k=> !gC k)
def aw.conv (s:aw) (xs:List au):Option (gp s.ft×Acc):=
 (gM B T s.vals xs ⟨[],[],[],[],[],[],[]⟩).bind fun a=>(qG B T s.boxes a).bind fun a=>if Li s a then(pack s.ft a.ps).map fun y=>(y,a)else none
end
mutual
def inst :cc->List gY->au×List gY×List (Nat×Option bc)
 | .dead,ps=>(.dead,ps,[])
 | .af t,ps=>match ps with
  |p::ps=>(.af p.1 p.2,ps,[])
  | []=>(.dead,[],[])
 | .aT,ps=>(.aT,ps,[])
 | .eQ,ps=>(.eQ,ps,[])
 | .box k o,ps=>(.box k o,ps,[])
 | .ptr t,ps=>match ps with
  |p::ps=>(.ptr p.1 p.2 0,ps,[])
  | []=>(.dead,[],[])
 | .own n t e deep,ps=>match ps with
  |⟨.ar r,xs⟩::ps=>(.own n r xs,ps,[(n,some (.live ⟨r,xs,e,false,deep,none⟩))])
  |_=>(.dead,[],[])
 | .ay n t e deep,ps=>match ps with
  |⟨.ar r,xs⟩::ps=>(.ay n,ps,[(n,some (.live ⟨r,xs,e,true,deep,none⟩))])
  |_=>(.dead,[],[])
 | .kJ n t e,ps=>match ps with
  |⟨.ar r,xs⟩::ps=>(.ay n,ps,[(n,some (.live ⟨r,xs,e,true,true,some []⟩))])
  |_=>(.dead,[],[])
 | .rK n t e,ps=>match ps with
  |⟨.pair (.ar r) (.int .i64),x⟩::ps=>(.ay n,ps,[(n,some (.live ⟨r,x.1,e,true,true,some [(Int.toNat x.2,gone,gone)]⟩))])
  |_=>(.dead,[],[])
 | .agg l,ps=>match hK l ps with
  |(xs,ps,y)=>(.agg xs,ps,y)
 | .bR l,ps=>match hK l ps with
  |(xs,ps,y)=>(.bR xs,ps,y)
 | .aV f l,ps=>match ps with
  |p::ps=>match hK l (EP (cc.qF l).length p)with
   |(xs,_,y)=>(.aV f xs,ps,y)
  | []=>(.dead,[],[])
def hK :List cc->List gY->List au×List gY×List (Nat×Option bc)
 | [],ps=>([],ps,[])
 |v::l,ps=>match inst v ps with
  |(x,ps,y)=>match hK l ps with
   |(xs,ps,us)=>(x::xs,ps,y++us)
end
def mG :List (Nat×Bool×List cc)->List gY->List (Nat×cm)×List (Nat×Option bc)
 | [],_=>([],[])
 |(k,cu,bT)::l,ps=>match hK bT ps with
  |(xs,ps,y)=>match mG l ps with
   |(z,us)=>((k,⟨cu,xs⟩)::z,y++us)
def aw.mk' (s:aw) (y:gp s.ft):aY:=match hK s.vals (unpack s.ft y)with
 |(xs,ps,z)=>match mG s.boxes ps with
  |(A,us)=>⟨xs,A,z++us⟩
structure Model where
 arg:aw
 ret:aw
 run:gp arg.ft->Option (gp ret.ft)
structure Env where
 P:Program
 ty:TypeId->Option bt
 fn:FuncId->List Model
 wr:Nat->Bool
 res:Nat->Bool
 dw:Nat->Bool
inductive bk :Type 1 where
 |ret (e:bP)
 |box (k:Nat) (f:Option cm->bk)
 |tok (t:Nat) (f:Option bc->bk)
 |gR (p:Prop) (d:Decidable p) (f:bk)
 |get {α:Type} (o:Option α) (f:α->bk)
 |r2 (b:Bool) (f g:bk)
 |fail
def bP.boxes (e:bP):List Nat:=e.box.map (·.1)
def bP.bI (e:bP):List Nat:=e.tok.map (·.1)
def bk.run {ρ:Type}:bk->aY->List Nat->List Nat->(bP->dc->Option ρ)->Option ρ
 | .ret e,_,aE,rt,K=>K e ⟨aE,e.boxes,rt,e.bI⟩
 | .box k f,s,aE,rt,K=>(f (aZ s.B k)).run s (k::aE) rt K
 | .tok t f,s,aE,rt,K=>(f (aH s.T t)).run s aE (t::rt) K
 | .gR p d f,s,aE,rt,K=> @ite _ p d (f.run s aE rt K) none
 | .get o f,s,aE,rt,K=>o.bind fun x=>(f x).run s aE rt K
 | .r2 b f g,s,aE,rt,K=>match b with
  |true=>f.run s aE rt K
  |false=>g.run s aE rt K
 | .fail,_,_,_,_=>none
def bk.val (x:au):bk:=.ret ⟨x,[],[]⟩
def fits (n:Int):Prop:=-9223372036854775808<=n/\n<=9223372036854775807
instance (n:Int):Decidable (fits n):=inferInstanceAs (Decidable (_/\_))
abbrev gR (p:Prop) [d:Decidable p] (f:bk):bk:=.gR p d f
def room (n m b:Nat):Prop:=(n+m)*b<=140737488355328/\n+m<=9223372036854775807
instance (n m b:Nat):Decidable (room n m b):=inferInstanceAs (Decidable (_/\_))
def idx {α:Type} (xs:List α) (i:Int):Option α:=if 0<=i then xs[i.toNat]? else none
def cut {α:Type} (xs:List α) (l h:Int):Option (List α):=if 0<=l/\l<=h/\h<=xs.length then some ((xs.take h.toNat).drop l.toNat)else none
def au.cells? :au->Option (List au)
 | .dead=>none
 | .bR _=>none
 | .agg cs=>some cs
 |x=>some [x]
def au.leaf :au->Bool
 | .agg _=>false
 | .bR _=>false
 | .aV _ _=>false
 |_=>true
def L1 :Value->au
 | .bool b=>.af .bool b
 | .int k n=>.af (.int k) n
 | .string s=>.af .str s.data.toList
 | .slice none 0 0=>.aT
 | .pointer none=>.eQ
 |_=>.dead
def aY.aQ (s:aY):Operand->au
 | .tmp t=>dU s.L t
 | .const v=>L1 v
 | .global _=>.dead
 | .func f=>.aV f []
def w8 (jk:List (Nat×Nat)):List au->List (Nat×au)->Option (List au)
 |cells,[]=>some cells
 |cells,(i,x)::rest=>
  match jk[i]?,x.cells? with
  |some (off,size),some cs=>if cs.length=size/\off+size<=cells.length then w8 jk (cells.take off++cs++cells.drop (off+size)) rest else none
  |_,_=>none
def qB (k:IntKind) (n:Int):bk:=
 match k with
 | .i64=>gR (fits n) (.val (.af (.int .i64) n))
 |k=>.val (.af (.int k) (k.wrap n))
def ey (op:BinOp) (k:IntKind) (x y:Int):Int:=
 let a:=BitVec.ofInt k.bits x
 let b:=BitVec.ofInt k.bits y
 match op with
 | .and=>k.wrap (a&&&b).toNat
 | .or=>k.wrap (a|||b).toNat
 | .xor=>k.wrap (a^^^b).toNat
 |_=>k.wrap (a&&& ~~~b).toNat
def zX (op:BinOp) (k:IntKind) (a b:Int):bk:=
 match op with
 | .shl=>gR (0<=b) (qB k (a*2^(min b.toNat k.bits)))
 | .shr=>gR (0<=b) (.val (.af (.int k) (a.fdiv (2^(min b.toNat k.bits)))))
 | .add=>qB k (a+b)
 | .sub=>qB k (a-b)
 | .mul=>qB k (a*b)
 | .quo=>gR (b≠0) (qB k (a.tdiv b))
 | .rem=>gR (b≠0) (.val (.af (.int k) (a.tmod b)))
 | .and=>.val (.af (.int k) (ey .and k a b))
 | .or=>.val (.af (.int k) (ey .or k a b))
 | .xor=>.val (.af (.int k) (ey .xor k a b))
 | .andNot=>.val (.af (.int k) (ey .andNot k a b))
 | .eql=>.val (.af .bool (decide (a=b)))
 | .neq=>.val (.af .bool (!decide (a=b)))
 | .lss=>.val (.af .bool (decide (a<b)))
 | .leq=>.val (.af .bool (decide (a<=b)))
 | .gtr=>.val (.af .bool (decide (b<a)))
 | .geq=>.val (.af .bool (decide (b<=a)))
def WD (op:BinOp) (a b:List UInt8):bk:=
 match op with
 | .add=>gR (a.length+b.length<=9223372036854775807) (.val (.af .str (a++b)))
 | .eql=>.val (.af .bool (decide (a=b)))
 | .neq=>.val (.af .bool (!decide (a=b)))
 | .lss=>.val (.af .bool (Op.bytesLess a b))
 | .leq=>.val (.af .bool (Op.bytesLess a b||decide (a=b)))
 | .gtr=>.val (.af .bool (!(Op.bytesLess a b||decide (a=b))))
 | .geq=>.val (.af .bool (!Op.bytesLess a b))
 |_=>.fail
def WC (op:BinOp) (a b:Bool):bk:=
 match op with
 | .eql=>.val (.af .bool (a==b))
 | .neq=>.val (.af .bool (!(a==b)))
 |_=>.fail
def isNil (x:au):Option Bool:=match x with
 | .eQ=>some true
 | .ptr _ _ _=>some false
 | .af (.opt _) y=>some (Option.isNone y)
 |_=>none
def S7 (z:Bool) (op:BinOp) (x y:au):bk:=
 match y with
 | .eQ=>match isNil x with
  |some b=>if z then match op with
   | .eql=>.val (.af .bool b)
   | .neq=>.val (.af .bool (!b))
   |_=>.fail
   else .fail
  |none=>.fail
 |_=>.fail
def Fw (z A:Bool) (op:BinOp) (x y:au):bk:=
 match x with
 | .af (.int k) a=>match y with
  | .af (.int aL) b=>match op with
   | .shl=>zX .shl k a b
   | .shr=>zX .shr k a b
   |op=>if k=aL then zX op k a b else .fail
  |_=>.fail
 | .af .str a=>match y with
  | .af .str b=>WD op a b
  |_=>.fail
 | .af .bool a=>match y with
  | .af .bool b=>if z then WC op a b else .fail
  |_=>.fail
 |x=>S7 A op x y
def Fl (x y:au):Option (List au×List au):=match x with
 | .agg xs=>match y with
  | .agg ys=>some (xs,ys)
  |_=>none
 |_=>none
def Fk (r:Option aJ) (op:BinOp) (xs ys:List au):bk:=
 match r with
 |none=>.fail
 |some r=>match hN r xs with
  |none=>.fail
  |some a=>match hN r ys with
   |none=>.fail
   |some b=>match op with
    | .eql=>.val (.af .bool (r.h2 a b))
    | .neq=>.val (.af .bool (!r.h2 a b))
    |_=>.fail
def VA (op:UnOp) (x:au):bk:=
 match x with
 | .af .bool b=>match op with
  | .not=>.val (.af .bool (!b))
  |_=>.fail
 | .af (.int k) n=>match op with
  | .neg=>qB k (0-n)
  | .xor=>.val (.af (.int k) (ey .xor k (if k.signed then-1 else k.max) n))
  |_=>.fail
 |_=>.fail
def bytesOf (xs:List Int):List UInt8:=xs.map fun n=>UInt8.ofNat n.toNat
def wo (r:aJ) (x:au) (f:List r.D->bk):bk:=
 match x with
 | .ay n=>.tok n fun z=>match z with
  |some (.live aa)=>if h:aa.t=r/\aa.tr=none then f (h.1▸aa.xs)else .fail
  |_=>.fail
 |x=>match x.as (.ar r)with
  |some xs=>f xs
  |none=>.fail
def rL (x:au) (f:Int->bk):bk:=
 match x with
 | .af (.int _) n=>f n
 |_=>.fail
def te (d:Int) (x:Option au) (f:Int->bk):bk:=
 match x with
 |none=>f d
 |some x=>rL x f
def qP :List au->(List (Nat×Option bc)->Bool->bk)->bk
 | [],f=>f [] true
 | .own t _ _::l,f=>.tok t fun x=>qP l fun es p=>f ((t,some .ej)::es) ((match x with|some (.live aa)=>aa.deep|_=>false)&&p&&es.all fun y=>y.1 !=t)
 | .af t _::l,f=>qP l fun es q=>f es (t.ct&&q)
 | .aT::l,f=>qP l fun es q=>f es q
 |_::l,f=>qP l fun es q=>f es false
def rm (r:aJ):Nat->List au->Option (List r.D)
 |0,_=>some []
 |n+1,cs=>match hN r (cs.take r.w),rm r n (cs.drop r.w)with
  |some x,some xs=>some (x::xs)
  |_,_=>none
def rv :Nat->Nat->List (Nat×au)->Option (List au)
 |_,_,[]=>some []
 |m,i,(j,x)::l=>if i=j then match x.cells?,rv m (i+1) l with
   |some cs,some ds=>if cs.length=m then some (cs++ds)else none
   |_,_=>none
  else none
def qb (d j:Nat):Nat:=1000*(d+1)+j
def nC (E:Env) (d:Nat) (r:aJ) (xs:List r.D) (e:TypeId) (deep:Bool) (es:List (Nat×Option bc)):bk:=
 .tok d fun x=>match x with
  |some _=>.fail
  |none=>if es.any (fun y=>y.1==d)||E.res d then .fail else if E.wr d then .ret ⟨.ay d,[],es++ [(d,some (.live ⟨r,xs,e,true,deep,none⟩))]⟩else .ret ⟨.own d r xs,[],es++ [(d,some (.live ⟨r,xs,e,false,deep,none⟩))]⟩
def oi :Option bc->Bool
 |some (.live aa)=>aa.deep
 |_=>false
def wP (E:Env) (d:Nat) (e:TypeId) (r:aJ) (G:Nat) (deep:Bool) (A:List (Nat×Option bc)) (wr:Bool) (xs:List r.D) (src:au):bk:=
 let fin (ys:List r.D) (es:List (Nat×Option bc)) (deep:Bool):bk:=
  gR (room xs.length ys.length G)
   (if E.wr d=wr then nC E d r (xs++ys) e deep es else .fail)
 match src with
 | .ay n=>.tok n fun z=>match z with
  |some (.live aa)=>if h:aa.t=r/\aa.tr=none then if r.ct then fin (h.1▸aa.xs) A deep else if A.any (fun y=>y.1==n)then .fail else fin (h.1▸aa.xs) (A++ [(n,some .ej)]) (deep&&aa.deep)else .fail
  |_=>.fail
 | .own n iT ys=>if h:iT=r then if r.ct then fin (h▸ys) A deep else if A.any (fun y=>y.1==n)then .fail else .tok n fun z=>fin (h▸ys) (A++ [(n,some .ej)]) (deep&&oi z)else .fail
 |src=>match src.as (.ar r)with
  |some ys=>fin ys A (deep&&r.ct)
  |none=>.fail
def vE (E:Env) (d:Nat) (r:aJ) (xs:List r.D) (e:TypeId) (es:List (Nat×Option bc)):bk:=
 .tok d fun x=>match x with
  |some _=>.fail
  |none=>if es.any (fun y=>y.1==d)||E.res d then .fail else if E.wr d=true/\r.ct=false then .ret ⟨.ay d,[],es++ [(d,some (.live ⟨r,xs,e,true,true,some []⟩))]⟩else .fail
def zT (E:Env) (d:Nat) (e:TypeId) (r:aJ) (y:Nat) (t:Nat) (xs:List r.D) (src:au):bk:=match src with
 | .ay n=>.tok n fun z=>match z with
  |some (.live aa)=>if h:aa.t=r/\aa.tr=some []then if n==t then .fail else gR (room xs.length aa.xs.length y) (vE E d r (xs++h.1▸aa.xs) e [(t,some .ej),(n,some .ej)])else .fail
  |_=>.fail
 |_=>.fail
mutual
def au.bI :au->List Nat
 | .own n _ _=>[n]
 | .ay n=>[n]
 | .sub n _ _=>[n]
 | .agg l=>au.kI l
 | .bR l=>au.kI l
 | .aV _ l=>au.kI l
 |_=>[]
def au.kI :List au->List Nat
 | []=>[]
 |x::l=>x.bI++au.kI l
end
mutual
def au.WR :au->List Nat
 | .box k _=>[k]
 | .agg l=>au.uj l
 | .bR l=>au.uj l
 | .aV _ l=>au.uj l
 |_=>[]
def au.uj :List au->List Nat
 | []=>[]
 |x::l=>x.WR++au.uj l
end
def yT :List Nat->List (Nat×cm)->(List (Nat×cm)->bk)->bk
 | [],B,f=>f B
 |k::l,B,f=>.box k fun b=>match b with
  |some b=>yT l (vW B k b) f
  |none=>.fail
def yU :List Nat->List (Nat×Option bc)->(List (Nat×Option bc)->bk)->bk
 | [],T,f=>f T
 |k::l,T,f=>.tok k fun z=>yU l (jL T k z) f
def Fy :List (Nat×cm)->List Nat
 | []=>[]
 |(_,b)::l=>au.kI b.cs++Fy l
def yM (B:List (Nat×cm)) (T:List (Nat×Option bc)) (xs:List au) (f:(m:Model)->gp m.arg.ft->Acc->bk):List Model->bk
 | []=>.fail
 |m::l=>match m.arg.conv B T xs with
  |some (a,acc)=>f m a acc
  |none=>yM B T xs f l
def xa (E:Env):List Nat->bk->bk
 | [],r=>r
 |t::l,r=>.tok t fun x=>match x with
  |none=>if E.res t then .fail else xa E l r
  |some _=>.fail
def Aw (E:Env):List Nat->bk->bk
 | [],r=>r
 |t::l,r=>.box t fun x=>match x with
  |none=>if E.res t then .fail else Aw E l r
  |some _=>.fail
def yV (d:Nat) (aE:List (Nat×Nat)) (k:Nat):Nat:=(bZ aE k).getD (qb d k)
def DX (d:Nat) (rt:List (Nat×Option Nat)) (n:Nat):Nat:=match bZ rt n with
 |some (some y)=>y
 |_=>qb d n
mutual
def au.tp (z y:Nat->Nat):au->au
 | .box k o=>.box (z k) o
 | .own n t xs=>.own (y n) t xs
 | .ay n=>.ay (y n)
 | .fx n i o=>.fx (y n) i o
 | .sub n l h=>.sub (y n) l h
 | .agg l=>.agg (au.kj z y l)
 | .bR l=>.bR (au.kj z y l)
 | .aV f l=>.aV f (au.kj z y l)
 |x=>x
def au.kj (y z:Nat->Nat):List au->List au
 | []=>[]
 |x::l=>x.tp y z::au.kj y z l
end
def Lz (T:List (Nat×Option bc)) (acc:Acc) (x:Nat×Option bc):Bool:=match bZ acc.rt x.1 with
 |some (some n)=>match aH T n,x.2 with
  |some (.live aa),some (.live b2)=>aa.wr&&decide (b2.t=aa.t)&& !acc.de.contains n
  |_,_=>false
 |_=>true
def s6 (z:Option bc):Bool:=match z with
 |some (.live _)=>true
 |_=>false
def xU (acc:Acc) (n:Nat):Bool:=match bZ acc.rt n with
 |some (some _)=>true
 |_=>false
def LP (d:Nat) (B:List (Nat×cm)) (T:List (Nat×Option bc)) (acc:Acc) (y:aY):Bool:=
 acc.dF.all (fun k=>(aZ B k).isSome)&&acc.de.all (fun n=>s6 (aH T n))&&acc.aE.all (fun x=>(aZ y.B x.1).isSome)&&decide ((y.B.map (·.1)).Nodup)&&decide ((y.T.map (·.1)).Nodup)&&y.T.all (Lz T acc)&&y.T.all (fun x=>s6 x.2)&&y.B.all (fun x=>h6 (yV d acc.aE x.1)==h6 x.1)
def xc (T:List (Nat×Option bc)) (n:Nat):Option (Nat×Option bc):=match aH T n with
 |some (.live aa)=>some (n,some (.live aa.cu))
 |_=>none
def LQ (E:Env) (d:Option Nat) (B:List (Nat×cm)) (T:List (Nat×Option bc)) (acc:Acc) (A:aY):bk:=
 let y:=yV (d.getD 0) acc.aE
 let z:=DX (d.getD 0) acc.rt
 let G:List (Nat×cm):=acc.dF.filterMap fun k=>(aZ B k).map fun b=>(k,{b with cu:=true})
 let I:List (Nat×Option bc):=acc.de.filterMap (xc T)
 let used:=acc.rt.filterMap (·.2)
 let J:=A.B.map fun x=>(y x.1,(⟨x.2.cu,au.kj y z x.2.cs⟩:cm))
 let K:=A.T.map fun x=>(z x.1,x.2)
 if LP (d.getD 0) B T acc A then
  Aw E ((A.B.filter fun x=>(bZ acc.aE x.1).isNone).map fun x=>y x.1)<|
  xa E ((A.T.filter fun x=> !xU acc x.1).map fun x=>z x.1)<|
  match A.L with
  | []=>.fail
  |v::_=>.ret ⟨match d with|some _=>v.tp y z|none=>.dead,G++J,I++((used.map fun n=>(n,some .ej))++K)⟩
 else .fail
mutual
def au.clean :au->Bool
 | .af t _=>t.ct
 | .own _ _ _=>true
 | .aT=>true
 | .dead=>true
 | .agg l=>au.py l
 | .bR l=>au.py l
 |_=>false
def au.py :List au->Bool
 | []=>true
 |x::l=>x.clean&&au.py l
end
mutual
def au.toM (ρ:Nat->Nat):au->au
 | .own n _ _=>.ay (ρ n)
 | .agg l=>.agg (au.zi ρ l)
 | .bR l=>.bR (au.zi ρ l)
 |x=>x
def au.zi (ρ:Nat->Nat):List au->List au
 | []=>[]
 |x::l=>x.toM ρ::au.zi ρ l
end
def mU (aa:Tok):Tok:=⟨aa.t,aa.xs,aa.e,true,true,bif aa.t.ct then none else some []⟩
def SR (x:Nat×Option bc):Bool:=match x.2 with
 |some (.live aa)=>aa.deep&& !aa.wr&&aa.tr.isNone
 |_=>false
def zl (ρ:Nat->Nat) (x:Nat×Option bc):Nat×Option bc:=match x.2 with
 |some (.live aa)=>(ρ x.1,some (.live (mU aa)))
 |z=>(ρ x.1,z)
def R5 (E:Env) (d:Option Nat) (y:aY):bk:=
 let z:=qb (d.getD 0)
 if y.B.isEmpty=true/\y.T.all SR=true/\(y.T.map (·.1)).Nodup/\au.py y.L=true then
  xa E (y.T.map fun x=>z x.1)<|
  match y.L with
  | []=>.fail
  |v::_=>.ret ⟨match d with|some _=>v.toM z|none=>.dead,[],y.T.map (zl z)⟩
 else .fail
def Jj (E:Env) (f:FuncId) (d:Option Nat) (xs:List au):bk:=
 yT (au.uj xs) [] fun B=>yU (au.kI xs++Fy B) [] fun T=>
  yM B T xs (fun m a acc=>if acc.rt.isEmpty=true/\acc.aE.isEmpty=true/\m.arg.boxes.isEmpty=true then .get (m.run a) fun r=>R5 E d (m.ret.mk' r)else .fail) (E.fn f)
def FD (E:Env) (f:FuncId) (d:Option Nat) (xs:List au):bk:=
 yT (au.uj xs) [] fun B=>yU (au.kI xs++Fy B) [] fun T=>
  yM B T xs (fun m a acc=>.get (m.run a) fun r=>LQ E d B T acc (m.ret.mk' r)) (E.fn f)
def oq (o:Nat):List (Nat×Nat×Nat)->Option (Nat×Nat)
 | []=>none
 |h::aU=>bif Nat.beq h.2.1 o then some (h.1,h.2.2)else oq o aU
def w2 (i o size:Nat):List (Nat×Nat×Nat)->(List (Nat×Nat×Nat)->bk)->bk
 | [],f=>f []
 |h::aU,f=>bif Nat.ble o h.2.1&&Nat.blt h.2.1 (o+size)then gR (h.1=i) (w2 i o size aU f)else w2 i o size aU fun l=>f (h::l)
def yH :List (Nat×Nat×Nat)->Nat->bk->bk
 | [],_,f=>f
 |h::aU,i,f=>bif Nat.beq h.2.2 gone then gR (h.1<=i) (yH aU i f)else yH aU i f
def zO (aU:List (Nat×Nat×Nat)) (i:Nat):Nat->Nat->(List au->bk)->bk
 |_,0,f=>f []
 |o,m+1,f=>match oq o aU with
  |some (eO,y)=>gR (eO=i) (if y=gone then .fail else .tok y fun z=>match z with
   |some (.live _)=>zO aU i (o+1) m fun cs=>f (.ay y::cs)
   |_=>.fail)
  |none=>.fail
def Dj (E:Env) (dst:Option Nat) (ty:bt) (n i o:Nat) (aa:Tok) (aU:List (Nat×Nat×Nat)):bk:=
 if ty.agg then zO aU i o ty.size fun cs=>.val (.agg cs)else yH aU i<| .get (aa.xs[i]?) fun y=>match(cellsOf aa.t y)[o]? with
  |some (.af (.ar r) x)=>match oq o aU with
   |some (eO,A)=>gR (eO=i) (if A=gone then .fail else .tok A fun z=>match z with
    |some (.live _)=>.val (.ay A)
    |_=>.fail)
   |none=>match dst,ty.elem with
    |some d,some (e,_,_)=>.tok d fun z=>match z with
     |none=>if E.res d then .fail else .ret ⟨.ay d,[],[(n,some (.live {aa with tr:=some ((i,o,d)::aU)})),(d,some (.live ⟨r,x,e,true,true,bif r.ct then none else some []⟩))]⟩
     |some _=>.fail
    |_,_=>.fail
  |some (.af t x)=>if t.ct=true then(match oq o aU with
   |none=>.val (.af t x)
   |some _=>.fail)else .fail
  |_=>.fail
def uI :List au->(List au->List (Nat×Option bc)->bk)->bk
 | [],f=>f [] []
 |c::l,f=>match c with
  | .ay t=>.tok t fun z=>match z with
   |some (.live aa)=>if aa.whole=true/\aa.wr=true/\aa.deep=true/\(aa.tr=none->aa.t.ct=true)then uI l fun cs es=>if es.any fun y=>y.1==t then .fail else f (.af (.ar aa.t) aa.xs::cs) ((t,some .ej)::es)else .fail
   |_=>.fail
  | .af t x=>if t.ct=true then uI l fun cs es=>f (.af t x::cs) es else .fail
  | .aT=>uI l fun cs es=>f (.aT::cs) es
  |_=>.fail
def Ez (n i o size:Nat) (ys:List au) (aa:Tok) (aU:List (Nat×Nat×Nat)):bk:=
 if o+size<=aa.t.w/\aa.t.w<=gone/\(aU.all fun h=>Nat.blt h.2.1 aa.t.w)=true then uI ys fun cs es=>if es.any fun y=>y.1==n then .fail else w2 i o size aU fun z=>.get (aa.xs[i]?) fun cv=>match hN aa.t ((cellsOf aa.t cv).take o++cs++(cellsOf aa.t cv).drop (o+size))with
  |some A=>.ret ⟨.bR [],[],es++ [(n,some (.live {aa with xs:=aa.xs.set i A,tr:=some z}))]⟩
  |none=>.fail
 else .fail
def ik :aJ->Nat->Option aJ
 | .unit,_=>none
 | .pair a b,o=>bif Nat.blt o a.w then ik a o else ik b (o-a.w)
 | .q,o=>match o with
  |0=>some (.int .i64)
  |1=>some .str
  |2=>some (.ar .str)
  |3=>some (.int .i64)
  |4=>some (.int .i64)
  |5=>some (.ar .q)
  |_=>none
 |t,o=>match o with
  |0=>some t
  |_=>none
def setCell :(t:aJ)->t.D->Nat->(r:aJ)->List r.D->t.D
 | .pair a b,x,o,r,ys=>bif Nat.blt o a.w then(setCell a x.1 o r ys,x.2)else(x.1,setCell b x.2 (o-a.w) r ys)
 | .q,x,o,r,ys=>match o,r,ys with
  |2,.str,ys=>.mk x.kind x.field ys x.lo x.hi x.kids
  |5,.q,ys=>.mk x.kind x.field x.words x.lo x.hi ys
  |_,_,_=>x
 | .ar iT,x,_,r,ys=>if h:r=iT then h▸ys else x
 |_,x,_,_,_=>x
def vQ (T:List (Nat×Option bc)) (n:Nat):List (Nat×Option bc):=match aH T n with
 |some (.live aa)=>match aa.tr with
  |some ((i,o,d)::aU)=>match aH T d with
   |some (.live gU)=>if gU.whole=true/\gU.wr=true/\gU.deep=true/\(gU.tr=none->gU.t.ct=true)/\d≠n/\ik aa.t o=some (.ar gU.t)/\d≠gone then jL (jL T d (some .ej)) n (some (.live {aa with xs:=aa.xs.modify i fun y=>setCell aa.t y o gU.t gU.xs,tr:=some aU}))else T
   |_=>T
  |_=>T
 |_=>T
def Kc :Nat->List Nat->List (Nat×Option bc)->List (Nat×Option bc)
 |0,_,T=>T
 |k+1,y,T=>Kc k y (y.foldl vQ T)
def Oe :Nat×Option bc->Bool
 |(_,some (.live aa))=> !aa.whole
 |_=>false
def DO (T:List (Nat×Option bc)):List (Nat×Option bc):=bif T.any Oe then Kc 8 (T.map (·.1)) T else T
def Ji (r:aJ) (x:au):bk:=match x with
 | .ay n=>.tok n fun z=>match z with
  |some (.live aa)=>if aa.t=r then .val (.af (.int .i64) (aa.xs.length:Int))else .fail
  |_=>.fail
 |x=>wo r x fun xs=>.val (.af (.int .i64) (xs.length:Int))
def zeroDeep :List au->Bool
 | []=>true
 | .af t _::l=>t.ct&&zeroDeep l
 | .aT::l=>zeroDeep l
 |_=>false
def yw (E:Env) (dst:Option Nat):Bool:=match dst with
 |some d=>E.dw d
 |none=>false
def I9 (E:Env) (dst:Option Nat) (lo:Option Operand) (wr:Bool):Option Nat:=match dst,lo with
 |some d,none=>if E.wr d&&wr then some d else none
 |_,_=>none
def E7 :(t:aJ)->Option t.D
 | .bool=>some false
 | .int _=>some (0:Int)
 | .str=>some ([]:List UInt8)
 |_=>none
def ea (dZ dG:aJ) (es:List (dZ.D×dG.D)) (k:dZ.D):Option dG.D:=(es.find? fun e=>dZ.h2 k e.1).map (·.2)
def ld :List (Nat×tZ)->Nat->Option tZ
 | [],_=>none
 |(k,x)::l,j=>bif Nat.beq k j then some x else ld l j
def Yv :Operand->Option Nat
 | .global g=>some g
 |_=>none
def AA (ty:bt) (g:Nat):bk:=match ld ov g with
 |some (.row t y)=>if ty.agg then(if 0+ty.size<=(cellsOf t y).length then .val (.agg (((cellsOf t y).drop 0).take ty.size))else .fail)else match(cellsOf t y)[0]? with
  |some c=>.val c
  |none=>.fail
 |some (.map _ _ _ _)=>if ty.agg then .fail else .val (.jd g)
 |_=>.fail
def M4 :au->Option Nat
 | .jd g=>some g
 |_=>none
def E6 :(t:aJ)->Option t.D
 | .pair a b=>match E6 a,E6 b with
  |some x,some y=>some (x,y)
  |_,_=>none
 |t=>E7 t
def Ku (agg:Bool) (t:aJ) (y:t.D):au:=bif agg then .agg (cellsOf t y)else .af t y
def Gv (E:Env) (T:TypeId) (g:Nat) (i:au) (ok:Bool):bk:=match E.ty T with
 |some ty=>match ty.AB with
  |some (_,_,dZ,dG,agg)=>match ld ov g with
   |some (.map A G y es)=>if h:A=dZ/\G=dG/\y=agg then .get (i.as dZ) fun k=>.get (E6 dG) fun z=>bif ok then .val (.bR [Ku agg dG ((ea dZ dG (show(aJ.ar (.pair dZ dG)).D from h.1▸h.2.1▸es) k).getD z),.af .bool (ea dZ dG (show(aJ.ar (.pair dZ dG)).D from h.1▸h.2.1▸es) k).isSome])else .val (Ku agg dG ((ea dZ dG (show(aJ.ar (.pair dZ dG)).D from h.1▸h.2.1▸es) k).getD z))else .fail
   |_=>.fail
  |none=>.fail
 |none=>.fail
def Tok.iz (aa:Tok):Tok:={aa with deep:=false,tr:=none}
def EL (c:au):bk:=match c with
 | .ay n=>.tok n fun z=>match z with
  |some (.live aa)=>if aa.tr=some []then .ret ⟨.ay n,[],[(n,some (.live aa.iz))]⟩else .fail
  |_=>.fail
 |_=>.fail
def zS (E:Env) (d t k:Nat) (aa:Tok) (src:au):bk:=match src with
 | .sub n lo hi=>if n==t then gR (k<=lo) (nC E d aa.t (aa.xs.take k++(aa.xs.take hi).drop lo) aa.e aa.deep [(t,some .ej)])else .fail
 |_=>.fail
def LV (E:Env) (T:TypeId) (x:au):bk:=match x with
 | .sub n l h=>.tok n fun z=>match z with
  |some (.live aa)=>match E.ty T with
   |some ty=>match ty.elem with
    |some (e,r,_)=>match E.ty e with
     |some y=>if aa.t=r/\aa.tr=none/\aa.wr=true/\aa.t.ct=true/\y.zero.length=r.w then(match hN aa.t y.zero with
      |some z=>.ret ⟨.bR [],[],[(n,some (.live {aa with xs:=aa.xs.take l++List.replicate (h-l) z++aa.xs.drop h}))]⟩
      |none=>.fail)else .fail
     |none=>.fail
    |none=>.fail
   |none=>.fail
  |_=>.fail
 |_=>.fail
def cK (E:Env) (op:Op) (dst:Option Nat) (ρ:Operand->au):bk:=
 match op with
 | .move x=>.val (ρ x)
 | .assign x=>.val (ρ x)
 | .pick c a b=>match ρ c with
  | .af .bool t=>.r2 t (.val (ρ a)) (.val (ρ b))
  |_=>.fail
 | .alloc T=>match dst,E.ty T with
  |some d,some ty=>.box d fun b=>match b with
   |none=>if E.res d||gC d then .fail else .ret ⟨.box d 0,[(d,⟨false,ty.zero⟩)],[]⟩
   |some _=>.fail
  |_,_=>.fail
 | .box T x=>match dst,E.ty T,(ρ x).cells? with
  |some d,some ty,some cs=>.box d fun b=>match b with
   |none=>if cs.length=ty.size/\E.res d=false/\gC d=false then .ret ⟨.box d 0,[(d,⟨false,cs⟩)],[]⟩else .fail
   |some _=>.fail
  |_,_,_=>.fail
 | .build T parts=>match E.ty T with
  |some ty=>match ty.jk,w8 ty.jk ty.zero (parts.toList.map fun q=>(q.1,ρ q.2))with
   |_::_,some cs=>.val (.agg cs)
   |_,_=>.fail
  |none=>.fail
 | .buildSlice T len parts=>match dst,E.ty T with
  |some d,some ty=>match ty.elem with
   |some (e,r,_)=>match rv r.w 0 (parts.toList.map fun q=>(q.1,ρ q.2))with
    |some cs=>match rm r len cs with
     |some xs=>if len=parts.toList.length/\len*r.w<=16777216 then(if E.dw d=true/\r.ct=false/\zeroDeep cs=true then vE E d r xs e []else qP cs fun es deep=>nC E d r xs e deep es)else .fail
     |none=>.fail
    |none=>.fail
   |none=>.fail
  |_,_=>.fail
 | .load T x=>match E.ty T with
  |none=>.fail
  |some ty=>match Yv x with
   |some g=>AA ty g
   |none=>match ρ x with
   | .box k o=>if gC k then .fail else .box k fun b=>match b with
    |none=>.fail
    |some b=>if ty.agg then(if o+ty.size<=b.cs.length then .val (.agg ((b.cs.drop o).take ty.size))else .fail)else match b.cs[o]? with
     |some c=>if yw E dst=true then EL c else .val c
     |none=>.fail
   | .ptr t y o=>if ty.agg then(if o+ty.size<=(cellsOf t y).length then .val (.agg (((cellsOf t y).drop o).take ty.size))else .fail)else match(cellsOf t y)[o]? with
    |some c=>.val c
    |none=>.fail
   | .fx n i o=>.tok n fun z=>match z with
    |some (.live aa)=>(match aa.tr with
     |none=>.get (aa.xs[i]?) fun y=>if ty.agg then(if o+ty.size<=(cellsOf aa.t y).length then .val (.agg (((cellsOf aa.t y).drop o).take ty.size))else .fail)else match(cellsOf aa.t y)[o]? with
      |some c=>.val c
      |none=>.fail
     |some aU=>Dj E dst ty n i o aa aU)
    |_=>.fail
   |_=>.fail
 | .store T x y=>match E.ty T,(ρ y).cells?,dst with
  |some ty,some ys,none=>if ys.length=ty.size then match ρ x with
   | .box k o=>if gC k then .fail else .box k fun b=>match b with
    |some ⟨false,cs⟩=>if o+ty.size<=cs.length then .ret ⟨.bR [],[(k,⟨false,cs.take o++ys++cs.drop (o+ty.size)⟩)],[]⟩else .fail
    |_=>.fail
   | .fx n i o=>.tok n fun z=>match z with
    |some (.live aa)=>(match aa.tr with
     |none=>if aa.wr=true/\(aa.t.ct=true\/aa.deep=false)/\o+ty.size<=aa.t.w then .get (aa.xs[i]?) fun cv=>match hN aa.t ((cellsOf aa.t cv).take o++ys++(cellsOf aa.t cv).drop (o+ty.size))with
      |some K=>.ret ⟨.bR [],[],[(n,some (.live {aa with xs:=aa.xs.set i K}))]⟩
      |none=>.fail
      else .fail
     |some aU=>Ez n i o ty.size ys aa aU)
    |_=>.fail
   |_=>.fail
   else .fail
  |_,_,_=>.fail
 | .makeSlice T l c=>match dst,E.ty T with
  |some d,some ty=>match ty.elem with
   |some (e,r,A)=>match E.ty e with
    |some G=>match hN r G.zero with
     |some z=>if G.zero.length=r.w/\zeroDeep G.zero=true then rL (ρ l) fun n=>rL (ρ c) fun m=>gR (n=m/\0<=n/\n*A<=140737488355328/\n<=140737488355328) (.tok d fun x=>match x with
       |some _=>.fail
       |none=>if E.res d then .fail else if E.wr d then .ret ⟨.ay d,[],[(d,some (.live ⟨r,List.replicate n.toNat z,e,true,true,bif r.ct then none else some []⟩))]⟩else .ret ⟨.own d r (List.replicate n.toNat z),[],[(d,some (.live ⟨r,List.replicate n.toNat z,e,false,true,none⟩))]⟩)
      else .fail
     |none=>.fail
    |none=>.fail
   |none=>.fail
  |_,_=>.fail
 | .nilCheck x=>match ρ x with
  | .box k o=>if gC k then .fail else .val (.box k o)
  | .ptr t r o=>.val (.ptr t r o)
  | .fx n i o=>.tok n fun z=>match z with
   |some (.live _)=>.val (.fx n i o)
   |_=>.fail
  | .af (.opt t) y=>.get y fun r=>.val (.ptr t r 0)
  |_=>.fail
 | .binOp op T x y _=>match Fl (ρ x) (ρ y)with
  |some (xs,ys)=>Fk ((E.ty T).bind (·.eqs)) op xs ys
  |none=>Fw (match E.ty T with|some ty=>ty.bool|none=>false) (match E.ty T with|some ty=>ty.ptr|none=>false) op (ρ x) (ρ y)
 | .unOp op _ x=>VA op (ρ x)
 | .fieldAddr T x f=>match E.ty T with
  |some ty=>match ty.jk[f]? with
   |some (off,size)=>if 0<size then match ρ x with
    | .box k o=>if gC k then .fail else .val (.box k (o+off))
    | .ptr t y o=>.val (.ptr t y (o+off))
    | .fx n i o=>.tok n fun z=>match z with
     |some (.live _)=>.val (.fx n i (o+off))
     |_=>.fail
    |_=>.fail
    else .fail
   |none=>.fail
  |none=>.fail
 | .field T x f=>match E.ty T with
  |some ty=>match ty.xb[f]? with
   |some (de,off)=>match E.ty de with
    |some I=>match ρ x with
     | .agg cs=>if I.agg then(if off+I.size<=cs.length then .val (.agg ((cs.drop off).take I.size))else .fail)else match cs[off]? with
      |some c=>.val c
      |none=>.fail
     |_=>.fail
    |none=>.fail
   |none=>.fail
  |none=>.fail
 | .indexAddr T x i=>match E.ty T with
  |some ty=>match ty.elem with
   |some (_,r,_)=>rL (ρ i) fun n=>match ρ x with
    | .ay t=>.tok t fun z=>match z with
     |some (.live aa)=>gR (0<=n/\n<aa.xs.length) (if aa.t=r then .val (.fx t n.toNat 0)else .fail)
     |_=>.fail
    |x=>wo r x fun xs=>.get (idx xs n) fun y=>.val (.ptr r y 0)
   |none=>.fail
  |none=>.fail
 | .index T x i=>match E.ty T with
  |some ty=>rL (ρ i) fun n=>match ρ x with
   | .af .str s=>if ty.str then .get (idx s n) fun b=>.val (.af (.int .u8) b.toNat)else .fail
   |_=>.fail
  |none=>.fail
 | .extract x i=>match ρ x with
  | .bR cs=>match cs[i]? with
   |some c=>.val c
   |none=>.fail
  |_=>.fail
 | .slice T x lo hi none=>match E.ty T with
  |some ty=>match ρ x with
   | .af .str s=>if ty.str then te 0 (lo.map ρ) fun l=>te s.length (hi.map ρ) fun h=>.get (cut s l h) fun y=>.val (.af .str y)else .fail
   |x=>match ty.elem with
    |some (_,r,_)=>match x with
     | .ay n=>.tok n fun z=>match z with
      |some (.live aa)=>if aa.t=r/\aa.tr=none then te 0 (lo.map ρ) fun l=>te aa.xs.length (hi.map ρ) fun h=>.get (cut aa.xs l h) fun y=>match I9 E dst lo aa.wr with
        |some d=>nC E d aa.t y aa.e aa.deep [(n,some .ej)]
        |none=>bif yw E dst then .val (.sub n l.toNat h.toNat)else .ret ⟨.af (.ar aa.t) y,[],[(n,some (.live aa.jz))]⟩
       else .fail
      |_=>.fail
     |x=>match x.as (.ar r)with
      |some xs=>te 0 (lo.map ρ) fun l=>te (List.length (α:=r.D) xs) (hi.map ρ) fun h=>.get (cut (α:=r.D) xs l h) fun y=>.val (.af (.ar r) y)
      |none=>.fail
    |none=>.fail
  |none=>.fail
 | .convert S T x=>match E.ty S,E.ty T with
  |some J,some ty=>match ρ x with
   | .af (.int _) n=>match ty.int with
    |some k=>.val (.af (.int k) (k.wrap n))
    |none=>.fail
   | .af .str b=>if ty.str then .val (.af .str b)else .fail
   |x=>match J.elem with
    |some (e,.int .u8,_)=>match(E.ty e).bind (·.int)with
     |some .u8=>if ty.str then wo (.int .u8) x fun xs=>.val (.af .str (bytesOf xs))else .fail
     |_=>.fail
    |_=>.fail
  |_,_=>.fail
 | .makeMap _ _=>.fail
 | .lookup T x i ok=>match M4 (ρ x)with
  |some g=>Gv E T g (ρ i) ok
  |none=>.fail
 | .mapUpdate _ _ _ _=>.fail
 | .makeFunc (.func f) first captured=>match first.toList with
  | []=>if(captured.toList.map ρ).all au.leaf then .val (.aV f (captured.toList.map ρ))else .fail
  |_=>.fail
 | .call c=>match c.callee with
  | .value g=>match ρ g with
   | .aV f cs=>bif yw E dst then Jj E f dst (c.args.toList.map ρ++cs)else FD E f dst (c.args.toList.map ρ++cs)
   |_=>.fail
  | .builtin .len=>match c.args.toList,c.argTypes[0]? with
   | [x],some T=>match E.ty T with
    |some ty=>match ρ x with
     | .af .str s=>if ty.str then .val (.af (.int .i64) (s.length:Int))else .fail
     |x=>match ty.elem with
      |some (_,r,_)=>Ji r x
      |none=>.fail
    |none=>.fail
   |_,_=>.fail
  | .builtin .clear=>match c.args.toList,c.argTypes[0]? with
   | [x],some T=>LV E T (ρ x)
   |_,_=>.fail
  | .builtin .min=>match c.args.toList with
   | [x,y]=>match ρ x with
    | .af (.int k) a=>match ρ y with
     | .af (.int _) b=>.val (.af (.int k) (if b<a then b else a))
     |_=>.fail
    |_=>.fail
   | [x,y,z]=>match ρ x with
    | .af (.int k) a=>match ρ y with
     | .af (.int _) b=>match ρ z with
      | .af (.int _) d=>.val (.af (.int k) (if d<(if b<a then b else a)then d else(if b<a then b else a)))
      |_=>.fail
     |_=>.fail
    |_=>.fail
   |_=>.fail
  | .builtin .max=>match c.args.toList with
   | [x,y]=>match ρ x with
    | .af (.int k) a=>match ρ y with
     | .af (.int _) b=>.val (.af (.int k) (if b>a then b else a))
     |_=>.fail
    |_=>.fail
   |_=>.fail
  | .builtin .append=>match dst,c.args.toList,c.argTypes.toList with
   |some d,[x,y],[T,M]=>if T=M then match E.ty T with
    |some ty=>match ty.elem with
     |some (e,r,A)=>match ρ x with
      | .own t iT xs=>.tok t fun z=>match z with
       |some (.live aa)=>if h:iT=r then(if aa.e=e then wP E d e r A aa.deep [(t,some .ej)] false (h▸xs) (ρ y)else .fail)else .fail
       |_=>.fail
      | .ay t=>.tok t fun z=>match z with
       |some (.live aa)=>if h:aa.t=r/\aa.tr=none then(if aa.e=e then wP E d e r A aa.deep [(t,some .ej)] aa.wr (h.1▸aa.xs) (ρ y)else .fail)else if h:aa.t=r/\aa.tr=some []then(if aa.e=e then zT E d e r A t (h.1▸aa.xs) (ρ y)else .fail)else .fail
       |_=>.fail
      | .aT=>wP E d e r A true [] (E.wr d) [] (ρ y)
      | .sub t lo k=>.tok t fun z=>match z with
       |some (.live aa)=>if aa.t=r/\aa.tr=none/\aa.wr=true/\aa.t.ct=true/\E.wr d=true/\lo=0 then zS E d t k aa (ρ y)else .fail
       |_=>.fail
      |_=>.fail
     |none=>.fail
    |none=>.fail
    else .fail
   |_,_,_=>.fail
  |_=>.fail
 |_=>.fail
def nQ :bP:=⟨.bR [],[],[]⟩
def sf :dc:=⟨[],[],[],[]⟩
def p5 {ρ:Type} (E:Env) (all:Array Oper):List Oper->aY->List dc->(aY->List dc->Option ρ)->Option ρ
 | [],s,acc,K=>K s acc.reverse
 |o::l,s,acc,K=>
  let go (s:aY):Option ρ:=(cK E o.op o.dst s.aQ).run s [] [] fun e y=>p5 E all l (s.app o.dst e) (y::acc) K
  let pass (s:aY):Option ρ:=p5 E all l (s.app o.dst nQ) (sf::acc) K
  match o.guard with
  |none=>go s
  |some (j,want)=>match(all[j]?).bind (·.dst)with
   |none=>pass s
   |some t=>match dU s.L t with
    | .af .bool b=>(match b with
     |true=>(let s:={s with L:=kl s.L t (.af .bool true)};match want with|true=>go s|false=>pass s)
     |false=>(let s:={s with L:=kl s.L t (.af .bool false)};match want with|true=>pass s|false=>go s))
    | .bR []=>pass s
    |_=>none
inductive zB where
 |out (slot:Nat) (path:List (Nat×Nat×Nat×Nat))
 |iz (k c:Nat)
 |SM (k c:Nat)
 |outs (slot q5:Nat) (l:List (Nat×Nat×Nat))
 |Lm (slot q5:Nat)
inductive Hint where
 |no
 |zk (gs:List zB)
 |seq (a b:Hint)
 |meet (s:aw) (a b:Hint)
 |cond (a b:Hint)
 |block (a:Hint)
 |loop (s:aw) (a:Hint)
def iter {y ρ:Type} (F:(y->Option ρ)->y->Option ρ):Nat->y->Option ρ
 |0,_=>none
 |n+1,x=>F (iter F n) x
def meet {y ρ:Type} (J:y->Option ρ) (X:(y->Option ρ)->Option ρ):Option ρ:=X J
def Hint.aqJ :Hint->Option aw×Hint×Hint
 | .seq a b=>(none,a,b)
 | .meet s a b=>(some s,a,b)
 |_=>(none,.no,.no)
def Hint.conds :Hint->Hint×Hint
 | .cond a b=>(a,b)
 |_=>(.no,.no)
def Hint.WE :Hint->Hint
 | .block a=>a
 |_=>.no
def Ks (E:Env) (a:Acc):Bool:=a.aE.all (fun x=> !E.res x.1||x.1==x.2)&&a.rt.all (fun x=>match x.2 with
 |some n=> !E.res x.1||x.1==n
 |none=> !E.res x.1)
def aw.wh (E:Env) (s:aw) (st:aY):Option (gp s.ft):=match s.conv st.B st.T st.L with
 |some (y,a)=>if Ks E a then some y else none
 |none=>none
def aY.oX (st:aY):aY:={st with T:=DO st.T}
def aw.to (E:Env) (s:aw) (st:aY):Option (gp s.ft):=s.wh E st.oX
def KF (s:aY) (c:Operand) (b:Bool):aY:=match c with
 | .tmp t=>{s with L:=kl s.L t (.af .bool b)}
 |_=>s
def Bw :au->Option Nat
 | .fx _ i _=>some i
 | .af (.int _) k=>some (Int.toNat k)
 |_=>none
def yI {ρ:Type}:List (Nat×Nat×Nat)->Nat->Option ρ->Option ρ
 | [],_,K=>K
 |h::aU,i,K=>bif Nat.beq h.2.2 gone then(if h.1<=i then yI aU i K else none)else yI aU i K
def zP {ρ:Type}:List (Nat×Nat×Nat)->Nat->Option ρ->Option ρ
 | [],_,K=>K
 |h::aU,i,K=>if h.1=i then zP aU i K else none
def vM {ρ:Type} (E:Env):List (Nat×Nat×Nat×Nat)->Nat->Nat->aY->(aY->Option ρ)->Option ρ
 | [],_,_,s,K=>K s
 |(o,d,e,q5)::p,n,i,s,K=>match aH s.T n with
  |some (.live aa)=>match aa.tr with
   |some aU=>match oq o aU with
    |some (eO,z)=>if eO=i then(match p with
     | []=>K s
     |_::_=>match Bw (dU s.L q5)with
      |some j=>vM E p z j s K
      |none=>none)else none
    |none=>yI aU i<|Option.bind (aa.xs[i]?) fun y=>match(cellsOf aa.t y)[o]? with
     |some (.af (.ar r) x)=>match aH s.T d with
      |none=>match E.res d with
       |true=>none
       |false=>(match p with
       | []=>K {s with T:=jL (jL s.T n (some (.live {aa with tr:=some ((i,o,d)::aU)}))) d (some (.live ⟨r,x,e,true,true,bif r.ct then none else some []⟩))}
       |_::_=>match Bw (dU s.L q5)with
        |some j=>vM E p d j {s with T:=jL (jL s.T n (some (.live {aa with tr:=some ((i,o,d)::aU)}))) d (some (.live ⟨r,x,e,true,true,bif r.ct then none else some []⟩))} K
        |none=>none)
      |some _=>none
     |_=>none
   |none=>none
  |_=>none
def DG {ρ:Type} (E:Env):List (Nat×Nat×Nat)->Nat->Nat->aY->(aY->Option ρ)->Option ρ
 | [],_,_,s,K=>K s
 |(o,d,e)::l,n,i,s,K=>vM E [(o,d,e,0)] n i s fun s=>DG E l n i s K
def JE :au->Option Nat
 | .ay n=>some n
 |_=>none
def vX (s:aY) (n:Nat) (aa:Tok) (aU:List (Nat×Nat×Nat)):aY:={s with T:=jL s.T n (some (.live {aa with tr:=some aU}))}
def lR {ρ:Type} (E:Env):List zB->aY->(aY->Option ρ)->Option ρ
 | [],s,K=>K s
 | .out ar p::gs,s,K=>match dU s.L ar with
  | .fx n i _=>vM E p n i s fun s=>lR E gs s K
  |_=>none
 | .iz k c::gs,s,K=>match aZ s.B k with
  |some b=>match b.cs[c]? with
   |some (.ay n)=>match aH s.T n with
    |some (.live aa)=>match aa.tr with
     |some []=>lR E gs {s with T:=jL s.T n (some (.live aa.iz))} K
     |some (_::_)=>none
     |none=>lR E gs s K
    |_=>none
   |_=>none
  |none=>none
 | .SM k c::gs,s,K=>match aZ s.B k with
  |some b=>match(b.cs[c]?).bind JE with
   |some n=>match aH s.T n with
    |some (.live aa)=>match aa.tr with
     |some []=>lR E gs (vX s n aa [(0,gone,gone)]) K
     |_=>none
    |_=>none
   |none=>none
  |none=>none
 | .outs ar q5 l::gs,s,K=>match JE (dU s.L ar)with
  |some n=>match Bw (dU s.L q5)with
   |some i=>DG E l n i s fun s=>lR E gs s K
   |none=>none
  |none=>none
 | .Lm ar q5::gs,s,K=>match JE (dU s.L ar)with
  |some n=>match Bw (dU s.L q5)with
   |some i=>match aH s.T n with
    |some (.live aa)=>match aa.tr with
     |some aU=>zP aU i (lR E gs (vX s n aa [(i+1,gone,gone)]) K)
     |none=>none
    |_=>none
   |none=>none
  |none=>none
def Zz {ρ:Type _} (x:ρ):ρ:=x
def ZA {ρ:Type _} (x:ρ):ρ:=Zz x
def ZB {ρ:Type _} (x:ρ):ρ:=ZA x
def ZC {ρ:Type _} (x:ρ):ρ:=ZB x
def ZD {ρ:Type _} (x:ρ):ρ:=ZC x
def ZE {ρ:Type _} (x:ρ):ρ:=ZD x
def uH {α ρ:Type _}:List α->(List α->ρ)->ρ
 | [],K=>K (ZE [])
 |x::l,K=>uH l fun y=>K (x::y)
def aY.tidy {ρ:Type _} (s:aY) (K:aY->ρ):ρ:=uH s.L fun L=>uH s.B fun B=>uH s.T fun T=>K ⟨L,B,T⟩
def Hint.M3 :Hint->List zB
 | .zk gs=>gs
 |_=>[]
noncomputable def atw {ρ:Type} (d:Option Nat) (x:au) (s:aY) (K:aY->Option ρ):Option ρ:=match x with
 | .box k 0=>if h6 k=2 then(match aZ s.B k with
  |some ⟨false,[.box m q,.af (.int .i64) n,.af (.int .i64) b,.af (.int .i64) _]⟩=>(match aZ s.B m with
   |some ⟨false,[.af (.ar (.pair dZ dG)) es]⟩=>if(List.length (α:=dZ.D×dG.D) es:Int)=n then
     bif(R3 (List.length (α:=dZ.D×dG.D) es) (Int.toNat b)).isEmpty then K (s.app d ⟨.bR [.af .bool false],[],[]⟩)
     else Wt (R3 (List.length (α:=dZ.D×dG.D) es) (Int.toNat b)) fun i=>K (s.app d ⟨.bR [.af .bool true,.dead,.dead],[(k,⟨false,[.box m q,.af (.int .i64) n,.af (.int .i64) ((Int.toNat b|||2^i:Nat):Int),.af (.int .i64) ((i+1:Nat):Int)]⟩)],[]⟩)
    else none
   |_=>none)
  |_=>none)else none
 |_=>none
def jJ {ρ:Type} (N:Nat) (E:Env) (ok:List Oper->List dc->Bool):Code->Hint->aY->(Exit->aY->Option ρ)->Option ρ
 | .skip,_,s,K=>K .normal s
 | .region _ ops draw,h,s,K=>lR E h.M3 s fun s=>p5 E ops ops.toList s [] fun z A=>match draw with
  |true=>(match ok ops.toList A with
   |true=>z.tidy (K .normal)
   |false=>none)
  |false=>z.tidy (K .normal)
 | .seq x y,h,s,K=>match h.aqJ with
  |(none,bb,hy)=>jJ N E ok x bb s fun e z=>match e with
   | .normal=>jJ N E ok y hy z K
   |e=>K e z
  |(some sh,bb,hy)=>
   meet (fun g:gp sh.ft=>jJ N E ok y hy (sh.mk' g) K) fun J=>jJ N E ok x bb s fun e z=>match e with
    | .normal=>(match sh.to E z with
     |some g=>J g
     |none=>none)
    |e=>K e z
 | .cond c x y,h,s,K=>match s.aQ c with
  | .af .bool b=>(match b with
   |true=>jJ N E ok x h.conds.1 (KF s c true) K
   |false=>jJ N E ok y h.conds.2 (KF s c false) K)
  |_=>none
 | .block id b,h,s,K=>jJ N E ok b h.WE s fun e z=>match e with
  | .exit j=>(match Nat.beq j id with
   |true=>K .normal z
   |false=>K (.exit j) z)
  |e=>K e z
 | .exit id,_,s,K=>K (.exit id) s
 | .ret,_,s,K=>K .ret s
 | .label _,_,s,K=>K .normal s
 | .loop b,h,s,K=>match h with
  | .loop sh av=>(match sh.to E s with
   |some g0=>iter (fun go g=>jJ N E ok b av (sh.mk' g) fun e z=>match e with
    | .normal=>(match sh.to E z with
     |some g=>go g
     |none=>none)
    |e=>K e z) N g0
   |none=>none)
  |_=>none
 |_,_,_,_=>none
def au.one? :au->Option au
 | .bR _=>none
 |x=>some x
def yW (E:Env) (s:aY):ResultVar->Option au
 | .tmp t=>(dU s.L t).one?
 | .cell a T=>match dU s.L a,E.ty T with
  | .box k o,some ty=>if gC k then none else match aZ s.B k with
   |some b=>if ty.agg then(if o+ty.size<=b.cs.length then some (.agg ((b.cs.drop o).take ty.size))else none)else b.cs[o]?
   |none=>none
  |_,_=>none
def p4 (E:Env) (s:aY):List ResultVar->Option (List au)
 | []=>some []
 |r::l=>match yW E s r,p4 E s l with
  |some x,some xs=>some (x::xs)
  |_,_=>none
def rE (E:Env) (s:aY) (rs:List ResultVar):Option au:=
 match p4 E s rs with
 |some [x]=>some x
 |some xs=>some (.bR xs)
 |none=>none
def extras :List cc->List (Nat×Option bc)->List au
 | [],_=>[]
 | .ay n _ _ _::l,T=>(if s6 (aH T n)then .ay n else .dead)::extras l T
 | .kJ n _ _::l,T=>(if s6 (aH T n)then .ay n else .dead)::extras l T
 |_::l,T=>.dead::extras l T
def Kx (N:Nat) (E:Env) (ok:List Oper->List dc->Bool) (fn:Func) (c:Code) (h:Hint) (arg ret:aw) (a:gp arg.ft):Option (gp ret.ft):=
 let s:=arg.mk' a
 jJ N E ok c h ⟨s.L++List.replicate (fn.ntmps-s.L.length) (.bR []),s.B,s.T⟩ fun e y=>match e with
  | .normal| .ret=>match rE E y fn.results.toList with
   |some v=>ret.wh E ⟨v::extras ret.vals.tail y.oX.T,y.B,y.oX.T⟩
   |none=>none
  |_=>none
abbrev b0 :=Nat->Nat->Prop
inductive bs (w:World) (S:b0):Value->b6->Prop where
 |bool (b:Bool):bs w S (.bool b) (.bool b)
 |int (k:IntKind) (n:Int):bs w S (.int k n) (.int k n)
 |str (s:ByteArray):bs w S (.string s) (.str s)
 |nil:bs w S (.pointer none) (.opt none)
 |ptr (row:List b6) (u:Nat->Value) (b o:Nat)
   (aU:∀(j:Nat) (c:b6),row[j]? =some c->S b (o+j))
   (hu:∀(j:Nat) (c:b6),row[j]? =some c->w.cell? ⟨b,o+j,none⟩=some (u j))
   (cG:∀(j:Nat) (c:b6),row[j]? =some c->bs w S (u j) c):bs w S (.pointer (some ⟨b,o,none⟩)) (.opt (some row))
 |ar (a:Option Addr) (cap:Nat) (rows:List (List b6)) (u:Nat->Nat->Value) (b o m:Nat) (bF:rows.length<=cap) (cJ:rows≠ []->a=some ⟨b,o,none⟩)
   (hm:∀(i:Nat) (row:List b6),rows[i]? =some row->row.length=m)
   (aU:∀(i j:Nat) (row:List b6) (c:b6),rows[i]? =some row->row[j]? =some c->S b (o+i*m+j))
   (hu:∀(i j:Nat) (row:List b6) (c:b6),rows[i]? =some row->row[j]? =some c->w.cell? ⟨b,o+i*m+j,none⟩=some (u i j))
   (cG:∀(i j:Nat) (row:List b6) (c:b6),rows[i]? =some row->row[j]? =some c->bs w S (u i j) c):bs w S (.slice a rows.length cap) (.ar rows)
theorem bs.mono {w w':World} {S S':b0} (G:∀b o,S b o->S' b o) (hw:∀b o,S b o->w'.cell? ⟨b,o,none⟩=w.cell? ⟨b,o,none⟩) {v:Value} {p:b6} (h:bs w S v p):bs w' S' v p:=by
 induction h with
 |bool b=>exact .bool b
 |int k n=>exact .int k n
 |str s=>exact .str s
 |nil=>exact .nil
 |ptr row u b o aU hu cG A=>exact .ptr row u b o (fun j c h=>G _ _ (aU j c h)) (fun j c h=>(hw _ _ (aU j c h)).trans (hu j c h)) A
 |ar a cap rows u b o m bF cJ hm aU hu cG A=>
  exact .ar a cap rows u b o m bF cJ hm (fun i j row c y z=>G _ _ (aU i j row c y z)) (fun i j row c y z=>(hw _ _ (aU i j row c y z)).trans (hu i j row c y z)) A
theorem bs.one {w:World} {S:b0} {v:Value} {p:b6} (h:bs w S v p):v.oneCell'=true:=by cases h<;>rfl
def kr (w:World) (S:b0) (b o:Nat) (row:List b6):Prop:=∀(j:Nat) (c:b6),row[j]? =some c->S b (o+j)/\∃u,w.cell? ⟨b,o+j,none⟩=some u/\bs w S u c
theorem kr.mono {w w':World} {S S':b0} (y:∀b o,S b o->S' b o) (hw:∀b o,S b o->w'.cell? ⟨b,o,none⟩=w.cell? ⟨b,o,none⟩) {b o:Nat} {row:List b6} (h:kr w S b o row):kr w' S' b o row:=by
 intro j c A
 obtain⟨z,u,G,I⟩:=h j c A
 exact⟨y _ _ z,u,(hw _ _ z).trans G,I.mono y hw⟩
theorem bs.SN {w:World} {S:b0} {v:Value} {row:List b6} (h:bs w S v (.opt (some row))):∃b o,v= .pointer (some ⟨b,o,none⟩)/\kr w S b o row:=by
 cases h with
 |ptr row u b o aU hu cG=>exact⟨b,o,rfl,fun j c y=>⟨aU j c y,u j,hu j c y,cG j c y⟩⟩
theorem bs.ao2 {w:World} {S:b0} {b o:Nat} {row:List b6} (h:kr w S b o row):bs w S (.pointer (some ⟨b,o,none⟩)) (.opt (some row)):=by
 refine .ptr row (fun j=>(w.cell? ⟨b,o+j,none⟩).getD undef) b o (fun j c y=>(h j c y).1) (fun j c y=>?_) (fun j c y=>?_)
 .obtain ⟨_,u,z,_⟩:=h j c y;simp[z]
 .obtain ⟨_,u,z,A⟩:=h j c y;simpa[z]using A
theorem bs.opened {w:World} {S:b0} {v:Value} {rows:List (List b6)} (h:bs w S v (.ar rows)):
  ∃a cap b o m,v= .slice a rows.length cap/\rows.length<=cap/\(rows≠ []->a=some ⟨b,o,none⟩)/\(∀(i:Nat) (row:List b6),rows[i]? =some row->row.length=m)/\∀(i:Nat) (row:List b6),rows[i]? =some row->kr w S b (o+i*m) row:=by
 cases h with
 |ar a cap rows u b o m bF cJ hm aU hu cG=>
  exact⟨a,cap,b,o,m,rfl,bF,cJ,hm,fun i row hi j c y=>⟨aU i j row c hi y,u i j,hu i j row c hi y,cG i j row c hi y⟩⟩
theorem bs.mk {w:World} {S:b0} {a:Option Addr} {cap b o m:Nat} {rows:List (List b6)} (bF:rows.length<=cap) (cJ:rows≠ []->a=some ⟨b,o,none⟩)
  (hm:∀(i:Nat) (row:List b6),rows[i]? =some row->row.length=m) (cG:∀(i:Nat) (row:List b6),rows[i]? =some row->kr w S b (o+i*m) row):bs w S (.slice a rows.length cap) (.ar rows):=by
 refine .ar a cap rows (fun i j=>(w.cell? ⟨b,o+i*m+j,none⟩).getD undef) b o m bF cJ hm (fun i j row c hi y=>(cG i row hi j c y).1) (fun i j row c hi y=>?_) (fun i j row c hi y=>?_)
 .obtain ⟨_,u,z,_⟩:=cG i row hi j c y
  simp[z]
 .obtain ⟨_,u,z,A⟩:=cG i row hi j c y
  simpa[z]using A
theorem DY {w:World} {S:b0}:bs w S (.slice none 0 0) (.ar []):=bs.mk (b:=0) (o:=0) (m:=0) (bE _) (fun h=>absurd rfl h) (fun i row h=>by simp at h) (fun i row h=>by simp at h)
inductive Deep (w:World):(Nat->Prop)->Value->au->Prop where
 |lit (F:Nat->Prop) (v:Value) (t:aJ) (x:t.D) (p:b6) (he:enc t x=[p]) (bK:p.isLit=true) (cV:v=fw p):Deep w F v (.af t x)
 |nil (F:Nat->Prop) (r:aJ):Deep w F (.slice none 0 0) (.af (.ar r) ([]:List r.D))
 |ar (F:Nat->Prop) (cap:Nat) (r:aJ) (xs:List r.D) (u:Nat->Nat->Value) (b:Nat) (q:Nat->Nat->Nat->Prop) (bT:Array Value) (T:TypeId) (av:F b) (bU:w.heap[b]? =some (.cells bT T (0,0))) (bL:bT.size=cap*r.w) (bF:xs.length<=cap) (bb:cap<=maxLen)
   (hu:∀(i j:Nat) (x:r.D) (c:au),xs[i]? =some x->(cellsOf r x)[j]? =some c->bT[i*r.w+j]? =some (u i j))
   (dy:∀i j k,q i j k->F k/\k≠b) (bd:∀i j eO db k,q i j k->q eO db k->i=eO/\j=db)
   (cG:∀(i j:Nat) (x:r.D) (c:au),xs[i]? =some x->(cellsOf r x)[j]? =some c->Deep w (q i j) (u i j) c):Deep w F (.slice (some ⟨b,0,none⟩) xs.length cap) (.af (.ar r) xs)
theorem Deep.same {w w':World} {F:Nat->Prop} {v:Value} {p:au} (h:Deep w F v p) (hw:∀k,F k->w'.heap[k]? =w.heap[k]?):Deep w' F v p:=by
 induction h with
 |lit F v t x p he bK cV=>exact .lit F v t x p he bK cV
 |nil F r=>exact .nil F r
 |ar F cap r xs u b q bT T av bU bL bF bb hu dy bd cG y=>
  exact .ar F cap r xs u b q bT T av ((hw b av).trans bU) bL bF bb hu dy bd (fun i j x c z A=>y i j x c z A (fun k G=>hw k (dy i j k G).1))
theorem Deep.mono {w:World} {F G:Nat->Prop} {v:Value} {p:au} (h:Deep w F v p) (y:∀k,F k->G k):Deep w G v p:=by
 cases h with
 |lit _ _ t x p he bK cV=>exact .lit G v t x p he bK cV
 |nil _ r=>exact .nil G r
 |ar _ cap r xs u b q bT T av bU bL bF bb hu dy bd cG=>exact .ar G cap r xs u b q bT T (y _ av) bU bL bF bb hu (fun i j k z=>⟨y _ (dy i j k z).1,(dy i j k z).2⟩) bd cG
structure Ctx where
 w:World
 S:b0
 live:Nat->Prop
 β:Nat->Nat
 tok:Nat->Option bc
 τ:Nat->Value
def rB (k b o:Nat):Value:=bif Nat.beq (h6 k) 1 then .map (some b)else .pointer (some ⟨b,o,none⟩)
theorem Kr {k b o:Nat} (h:gC k=false):rB k b o= .pointer (some ⟨b,o,none⟩):=by unfold rB;rw[s5.1 h];rfl
theorem aqf (k b o:Nat):(rB k b o).oneCell'=true:=by unfold rB;cases Nat.beq (h6 k) 1<;>rfl
def gK (c:Ctx):au->Value->Prop
 | .dead,_=>True
 | .af t x,v=>∃p,enc t x=[p]/\bs c.w c.S v p
 | .aT,v=>v= .slice none 0 0
 | .eQ,v=>v= .pointer none
 | .box k o,v=>c.live k/\v=rB k (c.β k) o
 | .ptr t x o,v=>∃b s,v= .pointer (some ⟨b,s+o,none⟩)/\kr c.w c.S b s (enc t x)
 | .own n t xs,v=>bs c.w c.S v (.ar (xs.map (enc t)))/\c.tok n≠none/\∀aa,c.tok n=some (.live aa)->aa.wr=false/\v=c.τ n/\(⟨aa.t,aa.xs⟩:(t:aJ)×List t.D)=⟨t,xs⟩
 | .ay n,v=>v.oneCell'=true/\c.tok n≠none/\∀aa,c.tok n=some (.live aa)->v=c.τ n
 | .fx n i o,v=>v.oneCell'=true/\c.tok n≠none/\∀aa,c.tok n=some (.live aa)->∃b l cap,c.τ n= .slice (some ⟨b,0,none⟩) l cap/\i<l/\v= .pointer (some ⟨b,i*aa.t.w+o,none⟩)
 | .jd g,v=>c.S g 0/\c.w.cell? ⟨g,0,none⟩=some v/\v.oneCell'=true
 | .agg _,_=>False
 | .bR _,_=>False
 | .aV _ _,_=>False
 | .sub n l h,v=>v.oneCell'=true/\c.tok n≠none/\∀aa,c.tok n=some (.live aa)->∃y len cap,c.τ n= .slice y len cap/\l<=h/\h<=len/\len<=cap/\v= .slice (if cap=l then y else y.map (·.add (l*aa.t.w))) (h-l) (cap-l)
def bx {α β:Type} (P:α->β->Prop):List α->List β->Prop
 | [],[]=>True
 |a::xs,b::ys=>P a b/\bx P xs ys
 |_,_=>False
def ff (c:Ctx):au->Value->Prop
 | .aV f cs,v=>∃us:List Value,v= .func (.func f) #[] us.toArray/\bx (gK c) cs us
 |x,v=>gK c x v
def ed (c:Ctx) (x:au) (v:Value):Prop:=ff c x v/\v.oneCell'=true
def gq (c:Ctx):au->Value->Prop
 | .agg cs,v=>∃bT,v= .agg (List.toArray bT)/\bx (ed c) cs bT
 |x,v=>ff c x v
def bp (c:Ctx):au->Value->Prop
 | .bR cs,v=>∃bT,v= .tuple (List.toArray bT)/\bx (gq c) cs bT
 |x,v=>gq c x v
theorem bx.len {α β:Type} {P:α->β->Prop}:∀ {xs:List α} {ys:List β},bx P xs ys->xs.length=ys.length
 | [],[],_=>rfl
 |_::xs,_::ys,h=>by simp[bx.len h.2]
 | [],_::_,h=>h.elim
 |_::_,[],h=>h.elim
theorem bx.imp {α β:Type} {P Q:α->β->Prop} (y:∀a b,P a b->Q a b):∀ {xs:List α} {ys:List β},bx P xs ys->bx Q xs ys
 | [],[],_=>True.intro
 |_::xs,_::ys,h=>⟨y _ _ h.1,bx.imp y h.2⟩
 | [],_::_,h=>h.elim
 |_::_,[],h=>h.elim
theorem bx.get {α β:Type} {P:α->β->Prop}:∀ {xs:List α} {ys:List β},bx P xs ys->∀(i:Nat) (a:α),xs[i]? =some a->∃b,ys[i]? =some b/\P a b
 | [],[],_,i,a,cJ=>by simp at cJ
 |x::xs,y::ys,h,0,a,cJ=>by simp at cJ;subst cJ;exact⟨y,rfl,h.1⟩
 |x::xs,y::ys,h,i+1,a,cJ=>by simpa using bx.get h.2 i a (by simpa using cJ)
 | [],_::_,h,_,_,_=>h.elim
 |_::_,[],h,_,_,_=>h.elim
theorem bx.vI {α β:Type} {P:α->β->Prop}:∀ {xs:List α} {ys:List β},xs.length=ys.length->(∀(i:Nat) (a:α) (b:β),xs[i]? =some a->ys[i]? =some b->P a b)->bx P xs ys
 | [],[],_,_=>True.intro
 |x::xs,y::ys,bK,h=>⟨h 0 x y rfl rfl,bx.vI (by simpa using bK) (fun i a b cJ av=>h (i+1) a b (by simpa using cJ) (by simpa using av))⟩
 | [],_::_,bK,_=>by simp at bK
 |_::_,[],bK,_=>by simp at bK
theorem bx.get' {α β:Type} {P:α->β->Prop} {xs:List α} {ys:List β} (h:bx P xs ys) (i:Nat) (a:α) (b:β) (cJ:xs[i]? =some a) (av:ys[i]? =some b):P a b:=by
 obtain⟨bz,y,z⟩:=h.get i a cJ
 rw[av]at y;cases y;exact z
theorem bx.append {α β:Type} {P:α->β->Prop}:∀ {xs:List α} {ys:List β} {y:List α} {z:List β},bx P xs ys->bx P y z->bx P (xs++y) (ys++z)
 | [],[],_,_,_,h=>h
 |_::xs,_::ys,_,_,h,A=>⟨h.1,bx.append h.2 A⟩
 | [],_::_,_,_,h,_=>h.elim
 |_::_,[],_,_,h,_=>h.elim
theorem bx.take {α β:Type} {P:α->β->Prop} {xs:List α} {ys:List β} (h:bx P xs ys) (n:Nat):bx P (xs.take n) (ys.take n):=
 bx.vI (by simp[h.len]) (fun i a b cJ av=>by
  rw[hU]at cJ av
  split at cJ
  .rw [ai ‹_›]at av;exact h.get' i a b cJ av
  .cases cJ)
theorem bx.drop {α β:Type} {P:α->β->Prop} {xs:List α} {ys:List β} (h:bx P xs ys) (n:Nat):bx P (xs.drop n) (ys.drop n):=
 bx.vI (by simp[h.len]) (fun i a b cJ av=>by
  rw[hV]at cJ av
  exact h.get' _ a b cJ av)
structure Ctx.n6 (c c':Ctx):Prop where
 S:∀b o,c.S b o->c'.S b o
 w:∀b o,c.S b o->c'.w.cell? ⟨b,o,none⟩=c.w.cell? ⟨b,o,none⟩
def hq (c c':Ctx):Prop:=∀t,c.tok t≠none->c'.tok t≠none/\∀b2,c'.tok t=some (.live b2)->∃aa,c.tok t=some (.live aa)/\c'.τ t=c.τ t/\b2.t=aa.t/\(aa.wr=false->b2.wr=false/\(⟨b2.t,b2.xs⟩:(t:aJ)×List t.D)=⟨aa.t,aa.xs⟩)
def gn (c c':Ctx):Prop:=∀k,c.live k->c'.live k/\c'.β k=c.β k
theorem hq.refl {c c':Ctx} (az:c'.tok=c.tok) (y:c'.τ=c.τ):hq c c':=fun t h=>⟨by rw[az];exact h,fun aa z=>⟨aa,by rw[<-az];exact z,by rw[y],rfl,fun h=>⟨h,rfl⟩⟩⟩
theorem gn.refl {c c':Ctx} (bK:c'.live=c.live) (y:c'.β=c.β):gn c c':=fun k h=>⟨by rw[bK];exact h,by rw[y]⟩
section
variable {c c' : Ctx} (h : c.n6 c') (av : gn c c') (az : hq c c')
include h av az
theorem gK.mono {x:au} {v:Value} (bb:gK c x v):gK c' x v:=by
 cases x with
 |dead=>exact True.intro
 |af t y=>obtain⟨p,e,cG⟩:=bb;exact⟨p,e,cG.mono h.S h.w⟩
 |aT=>exact bb
 |eQ=>exact bb
 |box k o=>obtain⟨A,G⟩:=bb;exact⟨(av k A).1,by rw[(av k A).2];exact G⟩
 |ptr t y o=>obtain⟨b,s,e,bF⟩:=bb;exact⟨b,s,e,bF.mono h.S h.w⟩
 |own n t xs=>
  obtain⟨I,J⟩:=az n bb.2.1
  refine⟨bs.mono h.S h.w bb.1,I,fun b2 z=>?_⟩
  obtain⟨aa,A,G,K,M⟩:=J b2 z
  obtain⟨O,Q,U⟩:=bb.2.2 aa A
  exact⟨(M O).1,by rw[G];exact Q,(M O).2.trans U⟩
 |ay n=>
  obtain⟨I,J⟩:=az n bb.2.1
  refine⟨bb.1,I,fun b2 z=>?_⟩
  obtain⟨aa,A,G,_⟩:=J b2 z
  rw[G];exact bb.2.2 aa A
 |fx n i o=>
  obtain⟨I,J⟩:=az n bb.2.1
  refine⟨bb.1,I,fun b2 z=>?_⟩
  obtain⟨aa,A,G,K,_⟩:=J b2 z
  rw[G,K];exact bb.2.2 aa A
 |sub n l k=>
  obtain⟨I,J⟩:=az n bb.2.1
  refine⟨bb.1,I,fun b2 z=>?_⟩
  obtain⟨aa,A,G,K,_⟩:=J b2 z
  rw[G,K];exact bb.2.2 aa A
 |jd g=>exact⟨h.S _ _ bb.1,(h.w _ _ bb.1).trans bb.2.1,bb.2.2⟩
 |agg cs=>exact bb.elim
 |bR cs=>exact bb.elim
 |aV f cs=>exact bb.elim
theorem ff.mono {x:au} {v:Value} (bb:ff c x v):ff c' x v:=by
 cases x with
 |aV f cs=>obtain⟨us,e,cJ⟩:=bb;exact⟨us,e,cJ.imp fun a b y=>gK.mono h av az y⟩
 |_=>simp only[ff]at bb⊢;exact gK.mono h av az bb
theorem gq.mono {x:au} {v:Value} (bb:gq c x v):gq c' x v:=by
 cases x with
 |agg cs=>obtain⟨bT,e,cJ⟩:=bb;exact⟨bT,e,cJ.imp (fun a b y=>⟨ff.mono h av az y.1,y.2⟩)⟩
 |_=>simp only[gq]at bb⊢;exact ff.mono h av az bb
theorem bp.mono {x:au} {v:Value} (bb:bp c x v):bp c' x v:=by
 cases x with
 |bR cs=>obtain⟨bT,e,cJ⟩:=bb;exact⟨bT,e,cJ.imp (fun a b y=>gq.mono h av az y)⟩
 |_=>simp only[bp]at bb⊢;exact gq.mono h av az bb
end
theorem jW {c:Ctx} {x:au} {v:Value} (h:gK c x v):ff c x v:=by cases x<;>first|exact h|exact h.elim
theorem kU {c:Ctx} {x:au} {v:Value} (h:ff c x v):gq c x v:=by cases x<;>first|exact h|exact h.elim
theorem jX {c:Ctx} {x:au} {v:Value} (h:gq c x v):bp c x v:=by cases x<;>first|exact h|exact h.elim
theorem hb {c:Ctx} {x:au} {v:Value} (h:ff c x v):bp c x v:=jX (kU h)
theorem X0 (x:aN):(Al x).length=6:=by cases x;rfl
theorem et :∀(t:aJ) (x:t.D),(enc t x).length=t.w
 | .bool,_=>rfl
 | .int _,_=>rfl
 | .str,_=>rfl
 | .unit,_=>rfl
 | .pair a b,x=>by simp[enc,aJ.w,et a,et b]
 | .ar _,_=>rfl
 | .opt _,_=>rfl
 | .q,x=>X0 x
theorem F4 (xs:List aN):Am xs=xs.map Al:=by
 induction xs with
 |nil=>rfl
 |cons x xs y=>simp[Am,y]
theorem lM :∀(t:aJ) (x:t.D),bx (fun(c:au) (p:b6)=>∃t x,c= .af t x/\enc t x=[p]) (cellsOf t x) (enc t x)
 | .bool,x=>⟨⟨_,_,rfl,rfl⟩,True.intro⟩
 | .int _,x=>⟨⟨_,_,rfl,rfl⟩,True.intro⟩
 | .str,x=>⟨⟨_,_,rfl,rfl⟩,True.intro⟩
 | .unit,_=>True.intro
 | .pair a b,x=>(lM a x.1).append (lM b x.2)
 | .ar _,x=>⟨⟨_,_,rfl,rfl⟩,True.intro⟩
 | .opt _,x=>⟨⟨_,_,rfl,rfl⟩,True.intro⟩
 | .q,.mk k f ws a b kids=>⟨⟨_,_,rfl,rfl⟩,⟨_,_,rfl,rfl⟩,⟨_,_,rfl,by simp[enc,aN.words]⟩,⟨_,_,rfl,rfl⟩,⟨_,_,rfl,rfl⟩,⟨.ar .q,kids,rfl,by simp only[enc,F4]⟩,True.intro⟩
theorem lN (t:aJ) (x:t.D):(cellsOf t x).length=t.w:=by rw[(lM t x).len,et]
theorem bs.pX {w:World} {S:b0} {p:b6} (h:p.isLit=true):bs w S (fw p) p:=by
 cases p with
 |bool b=>exact .bool b
 |int k n=>exact .int k n
 |str s=>exact .str s
 |ar rows=>cases h
 |opt row=>cases h
theorem Deep.rep {w:World} {S:b0} {F:Nat->Prop} {v:Value} {c:au} (h:Deep w F v c):(∀b o,F b->S b o)->∃(t:aJ) (x:t.D) (p:b6),c= .af t x/\enc t x=[p]/\bs w S v p:=by
 induction h with
 |lit F v t x p he bK cV=>exact fun _=>⟨t,x,p,rfl,he,cV▸bs.pX bK⟩
 |nil F r=>exact fun _=>⟨.ar r,[],.ar [],rfl,rfl,DY⟩
 |ar F cap r xs u b q bT T av bU bL bF bb hu dy bd cG J=>
  intro A
  refine⟨.ar r,xs,.ar (xs.map (enc r)),rfl,rfl,?_⟩
  rw[show xs.length=(xs.map (enc r)).length from by simp]
  refine bs.mk (b:=b) (o:=0) (m:=r.w) (by simpa using bF) (fun _=>rfl) (fun i row hi=>?_) (fun i row hi j c G=>?_)
  .rw [iC]at hi
   obtain⟨x,_,rfl⟩:=hT.1 hi
   exact et r x
  .rw [iC]at hi
   obtain⟨x,bb,rfl⟩:=hT.1 hi
   have y:=lM r x
   obtain⟨c',z⟩:∃c',(cellsOf r x)[j]? =some c':=by
    have:j<(cellsOf r x).length:=by rw[y.len];exact(dB.1 G).1
    exact⟨_,bG this⟩
   obtain⟨dj,gm,rfl,he⟩:=y.get' j c' c z G
   obtain⟨t2,Q,U,K,I,M⟩:=J i j x _ bb z (fun b o O=>A b o (dy i j b O).1)
   cases K
   rw[he]at I
   cases I
   refine⟨A _ _ av,u i j,?_,M⟩
   rw[gV,cell_of_row w b _ bT T (0,0) bU]
   exact hu i j x _ bb z
theorem hF.on {p q:fM} {a b c:World} (h:hF p a b) (k:hF q b c) (dy:∀i,q i->i<a.heap.size->p i):hF p a c:=
 ⟨k.os.trans h.os,k.tape.trans h.tape,k.output.trans h.output,dS h.size k.size,fun i hi y=>(k.block i (mc hi h.size) (fun z=>y (dy i z hi))).trans (h.block i hi y)⟩
structure ec where
 W:World
 X:Nat->Prop
 uc:b0
 oc:Nat->Option Nat
 gw:Nat->Option Value
def ec.dt (R:ec) (b:Nat):Prop:=R.W.heap.size<=b\/R.X b
def jU (aU:List (Nat×Nat×Nat)) (i j:Nat):Prop:=(∀d,(i,j,d)∉aU)/\∀k,(k,gone,gone)∈aU->k<=i
theorem jU.nil (i j:Nat):jU [] i j:=⟨fun d=>by simp,fun k h=>by cases h⟩
theorem jU.of {aU y:List (Nat×Nat×Nat)} {i j:Nat} (h:jU y i j) (z:∀x,x∈aU->x∈y):jU aU i j:=⟨fun d bd=>h.1 d (z _ bd),fun k A=>h.2 k (z _ A)⟩
def Tree (w:World) (F:Nat->Prop) (v:Value) (r:aJ) (xs:List r.D) (aU:List (Nat×Nat×Nat)):Prop:=
 v= .slice none 0 0\/ ∃(b cap:Nat) (q:Nat->Nat->Nat->Prop),v= .slice (some ⟨b,0,none⟩) xs.length cap/\(∀i j k,q i j k->F k/\k≠b)/\(∀i j eO db k,q i j k->q eO db k->i=eO/\j=db)/\
  ∀(i j:Nat) (x:r.D) (c:au),xs[i]? =some x->(cellsOf r x)[j]? =some c->∃u,w.cell? ⟨b,i*r.w+j,none⟩=some u/\u.oneCell'=true/\(jU aU i j->Deep w (q i j) u c)
def hE (w:World) (S:b0) (aa:Tok) (v:Value) (F:Nat->Prop):Prop:=match aa.tr with
 |none=>aa.deep=true->Deep w F v (.af (.ar aa.t) aa.xs)
 |some aU=>aa.wr=true/\aa.deep=true/\(∀b,F b->∀o,¬S b o)/\Tree w F v aa.t aa.xs aU
def cn (Fr:Nat->Prop) (w:World) (S:b0) (aa:Tok) (v:Value) (F:Nat->Prop):Prop:=
 (∀b,F b->Fr b/\b<w.heap.size)/\
 ((v= .slice none 0 0/\aa.xs=[])\/ ∃b cap bT T,v= .slice (some ⟨b,0,none⟩) aa.xs.length cap/\F b/\w.heap[b]? =some (.cells bT T (0,0))/\bT.size=cap*aa.t.w/\aa.xs.length<=cap/\cap<=maxLen/\
  (aa.wr=false->∀o,S b o->o<aa.xs.length*aa.t.w)/\(aa.wr=true->∀o,¬S b o)/\
  ∀(i j:Nat) (x:aa.t.D) (p:b6),aa.xs[i]? =some x->(enc aa.t x)[j]? =some p->∃u,bT[i*aa.t.w+j]? =some u/\(aa.tr=none->bs w S u p)/\(aa.wr=false->S b (i*aa.t.w+j)))/\
 hE w S aa v F
def iu (t:aJ) (x:t.D):Value:=match enc t x with
 | [p]=>fw p
 |_=>undef
def Fc (w:World) (b:Nat) (cs:List au):Prop:=
 ∃(dZ dG:aJ) (es:List (dZ.D×dG.D)) (fo:Array MapEntry) (y:Nat),(cs=[.af (.ar (.pair dZ dG)) es]\/cs=[.dead])/\w.heap[b]? =some (.map fo y)/\fo.toList.map (fun e=>(e.key,e.val))=es.map (fun x=>(iu dZ x.1,iu dG x.2))/\y=fo.size/\fo.toList.map (·.born)=List.range fo.size
def V3 (w:World) (b:Nat) (bT:List Value):Prop:=
 ∃(y n m:Nat) (seen:Array Nat),bT=[.map (some y),.int .i64 (n:Int),.int .i64 (m:Int),.int .i64 ((seen.toList.getLast?.map (· +1)).getD 0:Nat)]/\w.heap[b]? =some (.mapIter (some y) n seen n)/\∀i,m.testBit i=true↔i∈seen.toList
def kq (c:Ctx) (k b:Nat) (cs:List au):Prop:=
 (gC k=false/\∃bT T,c.w.heap[b]? =some (.cells (List.toArray bT) T (0,0))/\bx (ed c) cs bT)\/(h6 k=1/\Fc c.w b cs)\/(h6 k=2/\∃bT,V3 c.w b bT/\bx (ed c) cs bT)
theorem kq.imp {c c':Ctx} {k b:Nat} {cs:List au} (h:kq c k b cs) (G:c'.w.heap[b]? =c.w.heap[b]?) (cV:∀x v,ed c x v->ed c' x v):kq c' k b cs:=by
 rcases h with⟨y,bT,T,z,A⟩|⟨y,dZ,dG,es,fo,I,z,A,J⟩|⟨y,bT,⟨K,n,m,seen,z,A,J⟩,M⟩
 .exact .inl ⟨y,bT,T,G.trans z,A.imp cV⟩
 .exact .inr (.inl ⟨y,dZ,dG,es,fo,I,z,G.trans A,J⟩)
 .exact .inr (.inr ⟨y,bT,⟨K,n,m,seen,z,G.trans A,J⟩,M.imp cV⟩)
theorem kq.lt {c:Ctx} {k b:Nat} {cs:List au} (h:kq c k b cs):b<c.w.heap.size:=by
 rcases h with⟨_,bT,T,z,_⟩|⟨_,dZ,dG,es,fo,A,_,y,_⟩|⟨_,bT,⟨G,n,m,seen,_,y,_⟩,_⟩
 .exact rj z
 .exact rj y
 .exact rj y
theorem kq.cells {c:Ctx} {k b:Nat} {cs:List au} (h:kq c k b cs) (y:gC k=false):∃bT T,c.w.heap[b]? =some (.cells (List.toArray bT) T (0,0))/\bx (ed c) cs bT:=by
 rcases h with⟨_,h⟩|⟨h,_⟩|⟨h,_⟩
 .exact h
 .rw [s5.1 y]at h;cases h
 .rw [s5.1 y]at h;cases h
structure Mem (R:ec) (box:Nat->Option cm) (tok:Nat->Option bc) (β:Nat->Nat) (τ:Nat->Value) (F:Nat->Nat->Prop) (S:b0) (w:World):Prop where
 eD:hF R.X R.W w
 cv:∀b o,R.uc b o->S b o
 new:∀b o,S b o->R.uc b o\/R.dt b
 la:∀b o,R.uc b o->w.cell? ⟨b,o,none⟩=R.W.cell? ⟨b,o,none⟩
 lt:∀b o,S b o->b<w.heap.size
 boxes:∀k b,box k=some b->R.dt (β k)/\(b.cu=false->∀o,¬S (β k) o)/\(b.cu=true->∀o,o<b.cs.length->S (β k) o)/\kq ⟨w,S,fun k=>box k≠none,β,tok,τ⟩ k (β k) b.cs
 j0:∀k aL b bz,box k=some b->box aL=some bz->β k=β aL->k=aL
 bI:∀t aa,tok t=some (.live aa)->cn R.dt w S aa (τ t) (F t)
 eM:∀t dj aa b2 b,tok t=some (.live aa)->tok dj=some (.live b2)->F t b->F dj b->t=dj
 fq:∀t aa k b,tok t=some (.live aa)->box k=some b->¬F t (β k)
 lK:∀k b,R.oc k=some b->box k≠none->β k=b
 lp:∀t v aa,R.gw t=some v->tok t=some (.live aa)->τ t=v
 fR:∀n aa aU i o d,tok n=some (.live aa)->aa.tr=some aU->(i,o,d)∈aU->d≠gone->tok d≠none/\∀gU,tok d=some (.live gU)->∃b l cap,τ n= .slice (some ⟨b,0,none⟩) l cap/\w.cell? ⟨b,i*aa.t.w+o,none⟩=some (τ d)
theorem cn.block {Fr:Nat->Prop} {w:World} {S:b0} {aa:Tok} {v:Value} {F:Nat->Prop} (h:cn Fr w S aa v F) {b l cap:Nat} (e:v= .slice (some ⟨b,0,none⟩) l cap):F b:=by
 rcases h.2.1 with⟨y,_⟩|⟨bz,z,bT,T,y,A,_⟩
 .rw [y]at e;cases e
 .rw [y]at e;cases e;exact A
def aY.ctx (s:aY) (w:World) (S:b0) (β:Nat->Nat) (τ:Nat->Value):Ctx:=⟨w,S,fun k=>aZ s.B k≠none,β,aH s.T,τ⟩
def Rel (R:ec) (s:aY) (a:Act) (w:World):Prop:=
 ∃β τ F S,Mem R (aZ s.B) (aH s.T) β τ F S w/\a.tmps.size=s.L.length/\a.defers=[]/\∀i,bp (s.ctx w S β τ) (dU s.L i) (a.tmps.getD i undef)
section
variable {R : ec} {w w' : World} {S S' : b0} {box : Nat -> Option cm} {tok : Nat -> Option bc} {β : Nat -> Nat} {τ : Nat -> Value} {F : Nat -> Nat -> Prop}
theorem Mem.size (h:Mem R box tok β τ F S w):R.W.heap.size<=w.heap.size:=h.eD.size
theorem Mem.blt (h:Mem R box tok β τ F S w) {k:Nat} {b:cm} (y:box k=some b):β k<w.heap.size:=by
 exact(h.boxes k b y).2.2.2.lt
structure Step (X:Nat->Prop) (S S':b0) (w w':World):Prop where
 eD:hF X w w'
 cell:∀b o,S b o->w'.cell? ⟨b,o,none⟩=w.cell? ⟨b,o,none⟩
 cv:∀b o,S b o->S' b o
 new:∀b o,S' b o->S b o\/w.heap.size<=b\/X b
 lt:∀b o,S' b o->b<w'.heap.size
theorem Step.JI (av:Below w.heap.size w w') (bK:∀b o,S b o->b<w.heap.size) (y:∀b o,S b o->S' b o) (z:∀b o,S' b o->S b o\/w.heap.size<=b) (A:∀b o,S' b o->b<w'.heap.size):Step (fun _=>False) S S' w w':=
 ⟨hF.JI av,fun b o h=>(r0 av).1 b o (bK b o h),y,fun b o h=>(z b o h).imp id .inl,A⟩
theorem Step.le {X:Nat->Prop} (h:Step X S S' w w') (live:Nat->Prop) (tok':Nat->Option bc) (y:Nat->Prop) (z:Nat->Nat) (A:Nat->Value):Ctx.n6 ⟨w,S,live,β,tok,τ⟩ ⟨w',S',y,z,tok',A⟩:=⟨h.cv,h.cell⟩
theorem Tree.same {F:Nat->Prop} {v:Value} {r:aJ} {xs:List r.D} {aU:List (Nat×Nat×Nat)} (h:Tree w F v r xs aU) (av:∀b l cap,v= .slice (some ⟨b,0,none⟩) l cap->w'.heap[b]? =w.heap[b]?) (hw:∀k,F k->w'.heap[k]? =w.heap[k]?):Tree w' F v r xs aU:=by
 rcases h with h|⟨b,cap,q,e,dy,bd,bF⟩
 .exact .inl h
 .exact .inr ⟨b,cap,q,e,dy,bd,fun i j x c bb y=>by
   obtain⟨u,z,A,G⟩:=bF i j x c bb y
   exact⟨u,(World.cell?_of_block (w:=w) (av b _ _ e)).trans z,A,fun I=>(G I).same fun k J=>hw k (dy i j k J).1⟩⟩
theorem cn.step {X:Nat->Prop} {Fr:Nat->Prop} {aa:Tok} {v:Value} {G:Nat->Prop} (h:cn Fr w S aa v G) (aU:Step X S S' w w') (M:∀k,G k->¬X k):cn Fr w' S' aa v G:=by
 have A:=fun {b l cap:Nat} (e:v= .slice (some ⟨b,0,none⟩) l cap)=>h.block e
 obtain⟨I,O,J⟩:=h
 have y:∀b,G b->∀o,S' b o->S b o:=fun b bU o z=>by
  rcases aU.new b o z with h|h|h
  .exact h
  .have:=(I b bU).2;omega
  .exact absurd h (M b bU)
 have same:∀k,G k->w'.heap[k]? =w.heap[k]? :=fun k V=>aU.eD.block k (I k V).2 (M k V)
 refine⟨fun b bU=>⟨(I b bU).1,mc (I b bU).2 aU.eD.size⟩,?_,?_⟩
 .rcases O with O|⟨b,cap,bT,T,e,K,bU,bL,Y,hm,Q,U,bF⟩
  .exact .inl O
  .exact .inr ⟨b,cap,bT,T,e,K,(aU.eD.block b (I b K).2 (M b K)).trans bU,bL,Y,hm,fun hw o z=>Q hw o (y b K o z),fun hw o z=>U hw o (y b K o z),fun i j x p bb Z=>by
    obtain⟨u,dO,iL,hc⟩:=bF i j x p bb Z
    exact⟨u,dO,fun az=>(iL az).mono aU.cv aU.cell,fun hw=>aU.cv _ _ (hc hw)⟩⟩
 .unfold hE at J⊢
  split
  .rename_i az;rw[az]at J;exact fun bd=>(J bd).same same
  .rename_i mE az
   rw[az]at J
   obtain⟨g1,g2,g3,g4⟩:=J
   exact⟨g1,g2,fun b av o z=>g3 b av o (y b av o z),g4.same (fun b l cap e=>same b (A e)) same⟩
theorem Mem.step {X:Nat->Prop} (h:Mem R box tok β τ F S w) (aU:Step X S S' w w') (G:∀k,X k->R.dt k) (I:∀k b,box k=some b->¬X (β k)) (J:∀t aa,tok t=some (.live aa)->∀k,F t k->¬X k):Mem R box tok β τ F S' w':=by
 refine⟨h.eD.on aU.eD fun k bb z=>?_,fun b o V=>aU.cv _ _ (h.cv b o V),fun b o A=>?_,fun b o V=>(aU.cell b o (h.cv b o V)).trans (h.la b o V),aU.lt,fun k b z=>?_,h.j0,fun t aa az=>(h.bI t aa az).step aU (J t aa az),h.eM,h.fq,h.lK,h.lp,fun n aa K i o d M O Q U=>⟨(h.fR n aa K i o d M O Q U).1,fun gU bd=>?_⟩⟩
 case refine_4=>
  obtain⟨b,l,cap,cB,ck⟩:=(h.fR n aa K i o d M O Q U).2 gU bd
  have cT:=(h.bI n aa M).block cB
  exact⟨b,l,cap,cB,(World.cell?_of_block (w:=w) (aU.eD.block b ((h.bI n aa M).1 b cT).2 (J n aa M b cT))).trans ck⟩
 .rcases G k bb with A|A
  .omega
  .exact A
 .rcases aU.new b o A with y|y|y
  .exact h.new b o y
  .exact .inr (.inl (dS h.size y))
  .exact .inr (G b y)
 .obtain ⟨A,y,Z,il⟩:=h.boxes k b z
  refine⟨A,fun bL o cC=>?_,fun bL o cC=>aU.cv _ _ (Z bL o cC),il.imp (aU.eD.block _ (h.blt z) (I k b z)) fun x v bb=>⟨bb.1.mono (aU.le _ _ _ _ _) (gn.refl rfl rfl) (hq.refl rfl rfl),bb.2⟩⟩
  rcases aU.new _ o cC with Y|Y|Y
  .exact y bL o Y
  .have:=h.blt z;omega
  .exact I k b z Y
theorem Mem.grow (h:Mem R box tok β τ F S w) (av:Below w.heap.size w w') (y:∀b o,S b o->S' b o) (z:∀b o,S' b o->S b o\/w.heap.size<=b) (A:∀b o,S' b o->b<w'.heap.size):Mem R box tok β τ F S' w':=
 h.step (Step.JI av h.lt y z A) (fun _ h=>h.elim) (fun _ _ _ h=>h) (fun _ _ _ _ _ h=>h)
theorem Mem.drop (h:Mem R box tok β τ F S w) {tok':Nat->Option bc} (hu:∀t,tok t≠none->tok' t≠none) (aU:∀t aa,tok' t=some (.live aa)->tok t=some (.live aa)):Mem R box tok' β τ F S w:=by
 refine⟨h.eD,h.cv,h.new,h.la,h.lt,fun k b O=>?_,h.j0,fun t aa az=>h.bI t aa (aU t aa az),fun t dj aa b2 b y z=>h.eM t dj aa b2 b (aU t aa y) (aU dj b2 z),fun t aa k b y z=>h.fq t aa k b (aU t aa y) z,h.lK,fun t v aa y z=>h.lp t v aa y (aU t aa z),fun n aa A i o d M G I J=>⟨hu d (h.fR n aa A i o d (aU n aa M) G I J).1,fun gU bd=>(h.fR n aa A i o d (aU n aa M) G I J).2 gU (aU d gU bd)⟩⟩
 obtain⟨y,z,K,Q⟩:=h.boxes k b O
 exact⟨y,z,K,Q.imp rfl fun x v bb=>⟨ff.mono (c:=⟨w,S,fun k=>box k≠none,β,tok,τ⟩) (c':=⟨w,S,fun k=>box k≠none,β,tok',τ⟩) ⟨fun _ _ h=>h,fun _ _ _=>rfl⟩ (gn.refl rfl rfl) (fun t az=>⟨hu t az,fun aa h=>⟨aa,aU t aa h,rfl,rfl,fun hw=>⟨hw,rfl⟩⟩⟩) bb.1,bb.2⟩⟩
end
def updB (f:Nat->Option cm) (k:Nat) (b:cm):Nat->Option cm:=fun j=>if j=k then some b else f j
def updT (f:Nat->Option bc) (t:Nat) (x:Option bc):Nat->Option bc:=fun j=>if j=t then x else f j
section
variable {R : ec} {w w' : World} {S S' : b0} {box : Nat -> Option cm} {tok : Nat -> Option bc} {β : Nat -> Nat} {τ : Nat -> Value} {F : Nat -> Nat -> Prop}
theorem Mem.aoz (h:Mem R box tok β τ F S w) (d:Nat) (J:gC d=false) (bd:box d=none) (K:R.oc d=none) (k:Nat) (U:R.dt k) (T:TypeId) (bT:List Value) (cV:w.heap[k]? =some (.cells bT.toArray T (0,0))) (V:∀o,¬S k o) (G:∀j b,box j=some b->β j≠k) (M:∀t aa,tok t=some (.live aa)->¬F t k) (cs:List au)
  (bF:bx (ed ⟨w,S,fun j=>updB box d ⟨false,cs⟩ j≠none,fun j=>if j=d then k else β j,tok,τ⟩) cs bT):
  Mem R (updB box d ⟨false,cs⟩) tok (fun j=>if j=d then k else β j) τ F S w:=by
 have lift:∀x v,ed ⟨w,S,fun k=>box k≠none,β,tok,τ⟩ x v->ed ⟨w,S,fun j=>updB box d ⟨false,cs⟩ j≠none,fun j=>if j=d then k else β j,tok,τ⟩ x v:=fun x v bb=>
  ⟨ff.mono (c:=⟨w,S,fun k=>box k≠none,β,tok,τ⟩) (c':=⟨w,S,fun j=>updB box d ⟨false,cs⟩ j≠none,fun j=>if j=d then k else β j,tok,τ⟩) ⟨fun _ _ h=>h,fun _ _ _=>rfl⟩ (fun j y=>by
   have O:j≠d:=fun e=>y (e▸bd)
   simp only[updB,O,if_false];exact⟨y,trivial⟩) (hq.refl rfl rfl) bb.1,bb.2⟩
 refine⟨h.eD,h.cv,h.new,h.la,h.lt,fun j b y=>?_,fun j db b bz y A e=>?_,h.bI,h.eM,fun t aa j b az y=>?_,fun j b av y=>?_,h.lp,h.fR⟩
 .by_cases e:j=d
  .subst e
   simp[updB]at y;subst y
   simp only[if_true]
   exact⟨U,fun _=>V,(fun h=>by cases h),.inl ⟨J,bT,T,cV,bF⟩⟩
  .simp only [updB,e,if_false]at y
   obtain⟨Y,Z,Q,il⟩:=h.boxes j b y
   simp only[e,if_false]
   exact⟨Y,Z,Q,il.imp rfl lift⟩
 .by_cases z:j=d<;>by_cases I:db=d
  .rw [z,I]
  .simp only [updB,z,I,if_true,if_false]at A e
   exact absurd e.symm (G db bz A)
  .simp only [updB,z,I,if_true,if_false]at y e
   exact absurd e (G j b y)
  .simp only [updB,z,I,if_false]at y A e
   exact h.j0 j db b bz y A e
 .by_cases z:j=d
  .simp only [z,if_true];exact M t aa az
  .simp only [updB,z,if_false]at y⊢
   exact h.fq t aa j b az y
 .by_cases z:j=d
  .subst z;rw[K]at av;cases av
  .simp only [updB,z,if_false]at y⊢
   exact h.lK j b av y
theorem Mem.aoF (h:Mem R box tok β τ F S w) (d:Nat) (z:gC d=false) (bd:box d=none) (A:R.oc d=none) (T:TypeId) (bT:List Value) (cs:List au) (bF:bx (ed ⟨w,S,fun k=>box k≠none,β,tok,τ⟩) cs bT):
  Mem R (updB box d ⟨false,cs⟩) tok (fun k=>if k=d then w.heap.size else β k) τ F S (w.alloc (.cells bT.toArray T)):=by
 have av:Below w.heap.size w (w.alloc (.cells bT.toArray T)):=(Below.refl _ _).alloc (bE _) _
 have bU:=h.grow (S':=S) av (fun _ _ h=>h) (fun _ _ h=>.inl h) (fun b o J=>by have:=h.lt b o J;simp;omega)
 refine bU.aoz d z bd A w.heap.size (.inl h.size) T bT (heap_alloc_new w _) (fun o G=>by have:=h.lt _ _ G;omega) (fun j b y e=>by have:=h.blt y;omega) (fun t aa az K=>by have:=((h.bI t aa az).1 _ K).2;omega) cs
  (bF.imp fun x v bb=>⟨ff.mono (c:=⟨w,S,fun k=>box k≠none,β,tok,τ⟩) (c':=⟨w.alloc (.cells bT.toArray T),S,fun j=>updB box d ⟨false,cs⟩ j≠none,fun j=>if j=d then w.heap.size else β j,tok,τ⟩) ⟨fun _ _ h=>h,fun b o G=>(r0 av).1 b o (h.lt b o G)⟩ (fun j y=>by
   have I:j≠d:=fun e=>y (e▸bd)
   simp only[updB,I,if_false];exact⟨y,trivial⟩) (hq.refl rfl rfl) bb.1,bb.2⟩)
theorem Mem.aqK (h:Mem R box tok β τ F S w) (d:Nat) (O:gC d=false) (cs iH:List au) (bd:box d=some ⟨false,cs⟩) (z:List Value)
  (bF:bx (ed ⟨w,S,fun k=>box k≠none,β,tok,τ⟩) iH z):
  Mem R (updB box d ⟨false,iH⟩) tok β τ F S (w.setRow (β d) z.toArray)/\Ctx.n6 ⟨w,S,fun k=>box k≠none,β,tok,τ⟩ ⟨w.setRow (β d) z.toArray,S,fun k=>updB box d ⟨false,iH⟩ k≠none,β,tok,τ⟩:=by
 obtain⟨d1,d2,_,Xs⟩:=h.boxes d _ bd
 obtain⟨bT,T,d3,d4⟩:=Xs.cells O
 have d2:=d2 rfl
 have y:∀k,k≠β d->(w.setRow (β d) z.toArray).heap[k]? =w.heap[k]? :=fun k A=>setRow_other w (β d) k _ A
 have G:(w.setRow (β d) z.toArray).heap.size=w.heap.size:=by simp[World.setRow]
 have I:∀b o,S b o->(w.setRow (β d) z.toArray).cell? ⟨b,o,none⟩=w.cell? ⟨b,o,none⟩:=fun b o av=>World.cell?_of_block (w:=w) (y b (fun e=>d2 o (by rw[<-e];exact av)))
 have hle:Ctx.n6 ⟨w,S,fun k=>box k≠none,β,tok,τ⟩ ⟨w.setRow (β d) z.toArray,S,fun k=>updB box d ⟨false,iH⟩ k≠none,β,tok,τ⟩:=⟨fun _ _ h=>h,I⟩
 have lift:∀x v,ed ⟨w,S,fun k=>box k≠none,β,tok,τ⟩ x v->ed ⟨w.setRow (β d) z.toArray,S,fun k=>updB box d ⟨false,iH⟩ k≠none,β,tok,τ⟩ x v:=fun x v bb=>
  ⟨bb.1.mono hle (fun k A=>⟨by simp only[updB];split<;>first|exact A|simp,rfl⟩) (hq.refl rfl rfl),bb.2⟩
 have conv:∀ {k:Nat} {b:cm},updB box d ⟨false,iH⟩ k=some b->∃bz,box k=some bz:=fun {k b} A=>by
  by_cases e:k=d
  .exact ⟨_,e▸bd⟩
  .simp only [updB,e,if_false]at A;exact⟨b,A⟩
 have K:Step (fun k=>k=β d) S S w (w.setRow (β d) z.toArray):=⟨⟨rfl,rfl,rfl,by rw[G];exact bE _,fun k A J=>y k J⟩,I,fun _ _ h=>h,fun _ _ h=>.inl h,fun b o av=>by rw[G];exact h.lt b o av⟩
 refine⟨⟨?_,h.cv,h.new,fun b o hv=>(I b o (h.cv b o hv)).trans (h.la b o hv),fun b o av=>by rw[G];exact h.lt b o av,fun k b A=>?_,fun k aL b bz A M e=>?_,fun t aa az=>?_,h.eM,fun t aa k b az A=>?_,fun k b av A=>?_,h.lp,fun n aa Q i o d J U V Y=>⟨(h.fR n aa Q i o d J U V Y).1,fun gU bd=>?_⟩⟩,hle⟩
 .refine h.eD.on (q:=fun k=>k=β d) ⟨rfl,rfl,rfl,by rw[G];exact bE _,fun k A J=>y k J⟩ (fun k e A=>?_)
  subst e
  rcases d1 with d1|d1
  .omega
  .exact d1
 .by_cases e:k=d
  .subst e
   simp[updB]at A;subst A
   exact⟨d1,fun _=>d2,(fun h=>by cases h),.inl ⟨O,z,T,setRow_heap w (β k) bT.toArray _ T (0,0) d3,bF.imp lift⟩⟩
  .simp only [updB,e,if_false]at A
   obtain⟨aG,aX,Z,il⟩:=h.boxes k b A
   exact⟨aG,aX,Z,il.imp (y _ (fun mB=>e (h.j0 k d b _ A bd mB))) lift⟩
 .obtain ⟨es,xm⟩:=conv A
  obtain⟨X4,xn⟩:=conv M
  exact h.j0 k aL es X4 xm xn e
 .exact (h.bI t aa az).step K fun b cT e=>h.fq t aa d _ az bd (e▸cT)
 .obtain ⟨bz,M⟩:=conv A
  exact h.fq t aa k bz az M
 .refine h.lK k b av (fun e=>A ?_)
  by_cases dn:k=d
  .rw [dn,bd]at e;cases e
  .simp only [updB,dn,if_false];exact e
 .obtain ⟨b,l,cap,cB,ck⟩:=(h.fR n aa Q i o d J U V Y).2 gU bd
  have cT:=(h.bI n aa J).block cB
  exact⟨b,l,cap,cB,(World.cell?_of_block (w:=w) (y b (fun e=>h.fq n aa _ _ J ‹_› (e▸cT)))).trans ck⟩
theorem Mem.nC (h:Mem R box tok β τ F S w) (d:Nat) (bd:tok d=none) (Y:R.gw d=none) (aa:Tok) (v:Value) (G:Nat->Prop)
  (bB:cn R.dt w S aa v G) (A:aa.whole=true) (qR:∀t b2 b,tok t=some (.live b2)->G b->¬F t b) (Z:∀k b,box k=some b->¬G (β k)):
  Mem R box (updT tok d (some (.live aa))) β (fun t=>if t=d then v else τ t) (fun t=>if t=d then G else F t) S w:=by
 have live:∀ {t:Nat} {b2:Tok},t≠d->updT tok d (some (bc.live aa)) t=some (.live b2)->tok t=some (.live b2):=fun {t b2} e h=>by simpa only[updT,e,if_false]using h
 refine⟨h.eD,h.cv,h.new,h.la,h.lt,fun k b av=>?_,h.j0,fun t b2 az=>?_,fun t dj O Q b I J y z=>?_,fun t b2 k b az av=>?_,h.lK,fun t fr b2 cV az=>?_,fun n b2 aU i o c bj U V hd=>?_⟩
 .obtain ⟨I,J,qQ,il⟩:=h.boxes k b av
  refine⟨I,J,qQ,il.imp rfl fun x u bb=>⟨ff.mono (c:=⟨w,S,fun k=>box k≠none,β,tok,τ⟩) (c':=⟨w,S,fun k=>box k≠none,β,updT tok d (some (.live aa)),fun t=>if t=d then v else τ t⟩) ⟨fun _ _ h=>h,fun _ _ _=>rfl⟩ (gn.refl rfl rfl) (fun t az=>by
   have e:t≠d:=fun e=>az (e▸bd)
   simp only[updT,e,if_false]
   exact⟨az,fun b2 h=>⟨b2,h,trivial,rfl,fun hw=>⟨hw,rfl⟩⟩⟩) bb.1,bb.2⟩⟩
 .by_cases e:t=d
  .subst e
   simp[updT]at az;subst az
   simpa using bB
  .have:=h.bI t b2 (live e az)
   simpa[e]using this
 .by_cases K:t=d<;>by_cases M:dj=d
  .rw [K,M]
  .simp only [K,if_true]at y
   simp only[M,if_false]at z
   exact absurd z (qR dj Q b (live M J) y)
  .simp only [K,if_false]at y
   simp only[M,if_true]at z
   exact absurd y (qR t O b (live K I) z)
  .simp only [K,if_false]at y
   simp only[M,if_false]at z
   exact h.eM t dj O Q b (live K I) (live M J) y z
 .by_cases e:t=d
  .simp only [e,if_true];exact Z k b av
  .simp only [e,if_false];exact h.fq t b2 k b (live e az) av
 .by_cases e:t=d
  .subst e;rw[Y]at cV;cases cV
  .simp only [e,if_false];exact h.lp t fr b2 cV (live e az)
 .by_cases e:n=d
  .subst e
   simp[updT]at bj;subst bj
   unfold Tok.whole at A
   rw[U]at A
   cases aU with
   |nil=>cases V
   |cons _ _=>cases A
  .obtain ⟨I,J⟩:=h.fR n b2 aU i o c (live e bj) U V hd
   have w4:c≠d:=fun e=>I (e▸bd)
   simp only[updT,w4,e,if_false]
   exact⟨I,J⟩
end
theorem MZ :∀(L:List au) (d:Nat) (v:au) (i:Nat),dU (kl L d v) i=if d=i/\i<L.length then v else dU L i
 | [],d,v,i=>by simp[kl,dU]
 |x::L,0,v,0=>by simp[kl,dU]
 |x::L,0,v,i+1=>by simp[kl,dU]
 |x::L,d+1,v,0=>by simp[kl,dU]
 |x::L,d+1,v,i+1=>by simp[kl,dU,MZ L d v i]
theorem T7 :∀(L:List au) (d:Nat) (v:au),(kl L d v).length=L.length
 | [],_,_=>rfl
 |_::_,0,_=>rfl
 |_::L,d+1,v=>by simp[kl,T7 L d v]
theorem Js :∀(B:List (Nat×cm)) (k:Nat) (b:cm),aZ (vW B k b)=updB (aZ B) k b
 | [],k,b=>by funext j;simp[vW,aZ,updB]
 |(i,c)::B,k,b=>by
  funext j
  simp only[vW]
  by_cases h:i=k
  .subst h;simp only[if_true,aZ,updB];split<;>rfl
  .rw [aC h]
   simp only[aZ,Js B k b,updB]
   by_cases y:j=i
   .subst y;simp[h]
   .simp [y]
theorem nA :∀(T:List (Nat×Option bc)) (k:Nat) (x:Option bc),aH (jL T k x)=updT (aH T) k x
 | [],k,x=>by funext j;simp[jL,aH,updT]
 |(i,y)::T,k,x=>by
  funext j
  simp only[jL]
  by_cases h:i=k
  .subst h;simp only[if_true,aH,updT];split<;>rfl
  .rw [aC h]
   simp only[aH,nA T k x,updT]
   by_cases z:j=i
   .subst z;simp[h]
   .simp [z]
def bP.updB (e:bP) (f:Nat->Option cm):Nat->Option cm:=e.box.foldl (fun f x=>Go.Proofs.YtnkagklajgimlaaGreatDoor.updB f x.1 x.2) f
def bP.updT (e:bP) (f:Nat->Option bc):Nat->Option bc:=e.tok.foldl (fun f x=>Go.Proofs.YtnkagklajgimlaaGreatDoor.updT f x.1 x.2) f
theorem rY (s:aY) (d:Option Nat) (e:bP):aZ (s.app d e).B=e.updB (aZ s.B):=by
 unfold aY.app bP.updB
 generalize e.box=l
 simp only
 generalize s.B=B
 induction l generalizing B with
 |nil=>rfl
 |cons x l y=>simp only[eZ];rw[y,Js]
theorem ob (s:aY) (d:Option Nat) (e:bP):aH (s.app d e).T=e.updT (aH s.T):=by
 unfold aY.app bP.updT
 generalize e.tok=l
 simp only
 generalize s.T=B
 induction l generalizing B with
 |nil=>rfl
 |cons x l y=>simp only[eZ];rw[y,nA]
theorem zR (s:aY) (d:Option Nat) (e:bP) (i:Nat):dU (s.app d e).L i=if d=some i/\i<s.L.length then e.val else dU s.L i:=by
 cases d with
 |none=>simp[aY.app]
 |some d=>simp only[aY.app,MZ,iB]
theorem Fq (s:aY) (d:Option Nat) (e:bP):(s.app d e).L.length=s.L.length:=by
 cases d with
 |none=>rfl
 |some d=>simp only[aY.app,T7]
end Go.Proofs.YtnkagklajgimlaaGreatDoor
