
import Derived.WalkKit
import Derived.WalkSpells
import Derived.WalkLawsBesides
import Derived.Deep.RegionHeld3
import Derived.Deep.RegionLaw
import Derived.Deep.RegionWith
import Derived.Deep.DeepCutAuto
import Derived.Deep.LoopGhost
import Derived.Deep.QuietTactic
import Derived.BigQuiet
import Derived.Lib.Hide
import Derived.Handy
import Derived.Test.YtnkagklajgimlaaGreatDoorRows
import Derived.ProofKit
import Derived.Deep.Slices
import Derived.ChangeOld
set_option linter.unusedSimpArgs false
set_option linter.unusedVariables false
namespace Go.Proofs.YtnkagklajgimlaaGreatDoor
abbrev Dy := @Array.getElem?_eq_getElem
abbrev qS := @Array.getElem?_eq_some_iff
abbrev jY := @Array.getElem?_toList
abbrev kY := @Array.length_toList
abbrev bk := @Bool.and_eq_true
abbrev pE := @Bool.and_false
abbrev pB := @Bool.and_self
abbrev fX := @Bool.and_true
abbrev np := @Bool.eq_iff_iff
abbrev ov := @Bool.false_and
abbrev nk := @Bool.false_eq_true
abbrev ig := @Bool.false_or
abbrev sO := @Bool.not_eq_true'
abbrev dt := @Bool.not_false
abbrev bn := @Bool.not_true
abbrev lB := @Bool.or_eq_true
abbrev ck := @Bool.true_and
abbrev vn := @Int.emod_eq_of_lt
abbrev DA := @Int.fdiv_eq_ediv_of_nonneg
abbrev iF := @Int.le_refl
abbrev bp := @Int.lt_irrefl
abbrev nr := @Int.natCast_mul
abbrev Dx := @Int.tdiv_eq_ediv_of_nonneg
abbrev er := @Int.toNat_natCast
abbrev pC := @Int.toNat_of_nonneg
abbrev lC := @List.Pairwise.nil
abbrev cA := @List.all_eq_true
abbrev dJ := @List.append_assoc
abbrev e5 := @List.append_nil
abbrev jZ := @List.cons_append
abbrev pD := @List.drop_drop
abbrev fC := @List.drop_eq_getElem_cons
abbrev jv := @List.drop_eq_nil_of_le
abbrev lE := @List.drop_length
abbrev qT := @List.drop_zero
abbrev yk := @List.eq_nil_of_length_eq_zero
abbrev sS := @List.ext_getElem?
abbrev vk := @List.filterMap_cons
abbrev kV := @List.filter_append
abbrev iX := @List.filter_cons
abbrev nm := @List.find?_cons
abbrev vl := @List.find?_eq_none
abbrev lG := @List.flatMap_cons
abbrev hU := @List.foldl_append
abbrev eR := @List.foldl_cons
abbrev nn := @List.getD_eq_getElem?_getD
abbrev hV := @List.getElem?_append_left
abbrev iE := @List.getElem?_append_right
abbrev hT := @List.getElem?_drop
abbrev bH := @List.getElem?_eq_getElem
abbrev kr := @List.getElem?_eq_none
abbrev dx := @List.getElem?_eq_some_iff
abbrev ie := @List.getElem?_map
abbrev ho := @List.getElem?_take
abbrev Dw := @List.getElem?_zip_eq_some
abbrev bA := @List.getElem_mem
abbrev Dz := @List.isPrefixOf_iff_prefix
abbrev a1 := @List.length_append
abbrev aZ := @List.length_cons
abbrev eY := @List.length_drop
abbrev vj := @List.length_eq_zero_iff
abbrev sN := @List.length_filterMap_le
abbrev hK := @List.length_filter_le
abbrev dX := @List.length_map
abbrev bE := @List.length_nil
abbrev ym := @List.length_replicate
abbrev mj := @List.length_set
abbrev bS := @List.length_singleton
abbrev bX := @List.length_take
abbrev iD := @List.map_append
abbrev mg := @List.map_congr_left
abbrev cv := @List.map_cons
abbrev ml := @List.map_map
abbrev pF := @List.map_nil
abbrev cp := @List.mem_append
abbrev e8 := @List.mem_append_left
abbrev kW := @List.mem_append_right
abbrev bm := @List.mem_cons
abbrev b7 := @List.mem_cons_of_mem
abbrev b6 := @List.mem_cons_self
abbrev hp := @List.mem_filter
abbrev qV := @List.mem_filterMap
abbrev iY := @List.mem_flatMap
abbrev fe := @List.mem_iff_getElem
abbrev sU := @List.mem_iff_getElem?
abbrev cd := @List.mem_map
abbrev oq := @List.mem_of_find?_eq_some
abbrev fc := @List.mem_of_getElem?
abbrev nq := @List.mem_of_mem_drop
abbrev fK := @List.mem_of_mem_take
abbrev c1 := @List.mem_singleton
abbrev fj := @List.nil_append
abbrev ot := @List.nodup_cons
abbrev qW := @List.not_mem_nil
abbrev ez := @List.pairwise_cons
abbrev mh := @List.pairwise_iff_getElem
abbrev qU := @List.pairwise_map
abbrev lD := @List.take_append_drop
abbrev cl := @List.take_length
abbrev kX := @List.take_of_length_le
abbrev sP := @List.take_succ_cons
abbrev ec := @List.take_succ_eq_append_getElem
abbrev mm := @Nat.add_assoc
abbrev ey := @Nat.add_mul
abbrev lF := @Nat.add_sub_cancel
abbrev lH := @Nat.add_zero
abbrev nj := @Nat.div_le_self
abbrev vm := @Nat.div_lt_iff_lt_mul
abbrev yl := @Nat.eq_of_beq_eq_true
abbrev bC := @Nat.le_refl
abbrev sW := @Nat.le_succ_of_le
abbrev dK := @Nat.le_trans
abbrev kZ := @Nat.lt_of_lt_of_le
abbrev sT := @Nat.lt_trichotomy
abbrev ow := @Nat.min_eq_left
abbrev mn := @Nat.mod_lt
abbrev k0 := @Nat.mul_comm
abbrev sR := @Nat.mul_le_mul
abbrev eh := @Nat.mul_le_mul_right
abbrev sQ := @Nat.not_lt_zero
abbrev yj := @Nat.pow_le_pow_right
abbrev sV := @Nat.xor_lt_two_pow
abbrev gK := @Nat.zero_add
abbrev bg := @Nat.zero_le
abbrev ju := @Option.bind_eq_some_iff
abbrev af := @Option.bind_some
abbrev mi := @Option.getD_some
abbrev hJ := @Option.map_eq_some_iff
abbrev ou := @Option.map_some
abbrev gk := @Option.ne_none_iff_exists'
abbrev ic := @Option.some.injEq
abbrev aj := @cond_false
abbrev ao := @cond_true
abbrev ak := @decide_eq_false
abbrev aq := @decide_eq_true
abbrev bz := @decide_eq_true_eq
abbrev aA := @if_neg
abbrev ai := @if_pos
open Go.RowKit
abbrev fD :=Nat->Prop
def TF (p:fD) (w w':World):Prop:=∀b,p b->w'.heap[b]? =w.heap[b]?
structure hr (p:fD) (w w':World):Prop where
 os:w'.os=w.os
 tape:w'.tape=w.tape
 output:w'.output=w.output
 size:w.heap.size<=w'.heap.size
 block:∀k,k<w.heap.size->¬p k->w'.heap[k]? =w.heap[k]?
theorem hr.refl (p:fD) (w:World):hr p w w:=⟨rfl,rfl,rfl,bC _,fun _ _ _=>rfl⟩
theorem hr.H5 {p:fD} {a b:World} (h:Below a.heap.size a b):hr p a b:=⟨h.os,h.tape,h.output,h.size,fun k y _=>h.block k y⟩
theorem lt_of_cell {w:World} {b o:Nat} {v:Value} (h:w.cell? ⟨b,o,none⟩=some v):b<w.heap.size:=World.block_lt_of_cell? _ _ h
theorem qv {w:World} {b:Nat} {o:Obj} (h:w.heap[b]? =some o):b<w.heap.size:=(qS.1 h).1
theorem q4 {W y:World} (au:Below W.heap.size W y):(∀b o,b<W.heap.size->y.cell? ⟨b,o,none⟩=W.cell? ⟨b,o,none⟩)/\(∀b o,b<W.heap.size->y.frozen? ⟨b,o,none⟩=W.frozen? ⟨b,o,none⟩):=
 ⟨fun b o h=>au.cell (p:=⟨b,o,none⟩) h,fun b o h=>au.frozen (p:=⟨b,o,none⟩) h⟩
abbrev lI (α:Type):=World->List Value->α->fD->Prop
structure Good {α:Type} (m:Nat) (C:lI α):Prop where
 len:∀ {w:World} {cs:List Value} {x:α} {p:fD},C w cs x p->cs.length=m
 one:∀ {w:World} {cs:List Value} {x:α} {p:fD},C w cs x p->∀u,u∈cs->u.oneCell'=true
 same:∀ {w w':World} {cs:List Value} {x:α} {p:fD},C w cs x p->TF p w w'->C w' cs x p
 mono:∀ {w:World} {cs:List Value} {x:α} {p q:fD},C w cs x p->(∀k,p k->q k)->C w cs x q
 bound:∀ {w:World} {cs:List Value} {x:α} {p:fD},C w cs x p->C w cs x (fun k=>p k/\k<w.heap.size)
def vx {α:Type} (m:Nat) (C:lI α) (w:World) (v:Value) (xs:List α) (p:fD):Prop:=
 ∃a cap,v= .slice a xs.length cap/\(xs.length<=9223372036854775807/\xs.length<=cap)/\∀i x,xs[i]? =some x->
  ∃b o cs,a=some ⟨b,o,none⟩/\p b/\b<w.heap.size/\cs.length=m/\(∀j c,cs[j]? =some c->w.cell? ⟨b,o+i*m+j,none⟩=some c)/\C w cs x p
def TE {α:Type} (m:Nat) (C:lI α) (w:World) (v:Value) (xs:List α) (p:fD):Prop:=
 ∃a cap,v= .slice a xs.length cap/\(xs.length<=9223372036854775807/\xs.length<=cap)/\(xs=[]\/ ∃b o,∃q:Nat->fD,a=some ⟨b,o,none⟩/\p b/\b<w.heap.size/\(∀j,w.frozen? ⟨b,j,none⟩=false)/\
  (∀i,¬q i b)/\(∀i k,q i k->p k)/\(∀i j k,i≠j->q i k->¬q j k)/\∀i x,xs[i]? =some x->
   ∃cs,cs.length=m/\(∀j c,cs[j]? =some c->w.cell? ⟨b,o+i*m+j,none⟩=some c)/\C w cs x (q i))
section
variable {α : Type} {m : Nat} {C : lI α} {w w' : World} {v : Value} {xs : List α} {p q : fD}
theorem vx.nil (w:World) (a:Option Addr) (cap:Nat) (p:fD):vx m C w (.slice a 0 cap) [] p:=⟨a,cap,rfl,by simp,fun i x h=>by simp at h⟩
end
section
variable {α : Type} {base e m : Nat} {C : lI α} {w w' : World} {v fi : Value} {xs : List α} {p : fD}
theorem K3 {β:Type}:∀(y:List (List β)) (m:Nat) (_:∀cs,cs∈y->cs.length=m) (i:Nat) (cs:List β),y[i]? =some cs->∀j c,cs[j]? =some c->y.flatten[i*m+j]? =some c
 | [],_,_,i,cs,h,_,_,_=>by simp at h
 |d::y,m,hm,0,cs,h,j,c,bB=>by
  simp at h;subst h
  have:=(dx.1 bB).1
  simp only[List.flatten_cons,Nat.zero_mul,gK]
  rw[hV this];exact bB
 |d::y,m,hm,i+1,cs,h,j,c,bB=>by
  have bc:d.length=m:=hm d (by simp)
  have z:=K3 y m (fun cs h=>hm cs (by simp[h])) i cs (by simpa using h) j c bB
  simp only[List.flatten_cons]
  rw[iE (by rw[bc,ey];omega),bc,show(i+1)*m+j-m=i*m+j from by rw[ey];omega]
  exact z
end
section
variable {P : Program} (w : World)
end
structure anN {α:Type} (C:lI α):Prop where
 all:∀ {w:World} {cs:List Value} {x:α} {p:fD},C w cs x p->∀(w':World) (q:fD),C w' cs x q
section
variable {α : Type} {m : Nat} {C : lI α} {w : World} {v : Value} {xs : List α} {p : fD}
theorem tb (b o j:Nat):(⟨b,o,none⟩:Addr).add j=⟨b,o+j,none⟩:=by unfold Addr.add;split<;>simp_all
theorem D6 {β:Type} (f:Nat->β->Prop):∀n,(∀i,i<n->∃y,f i y)->∃l:List β,l.length=n/\∀i y,l[i]? =some y->f i y
 |0,_=>⟨[],rfl,fun i y h=>by simp at h⟩
 |n+1,h=>by
  obtain⟨l,bK,A⟩:=D6 f n (fun i hi=>h i (by omega))
  obtain⟨y,hy⟩:=h n (by omega)
  refine⟨l++ [y],by simp[bK],fun i z bI=>?_⟩
  rcases Nat.lt_or_ge i l.length with hi|hi
  .rw [hV hi]at bI;exact A i z bI
  .rw [iE hi]at bI
   have e:i-l.length=0:=by
    rcases Nat.eq_zero_or_pos (i-l.length)with h|h
    .exact h
    .rw [show i-l.length=(i-l.length-1)+1 from by omega]at bI;simp at bI
   rw[e]at bI;simp at bI;subst bI
   obtain rfl:i=n:=by omega
   exact hy
theorem K4 {β:Type}:∀(y:List (List β)) (m:Nat) (_:∀cs,cs∈y->cs.length=m),y.flatten.length=y.length*m
 | [],_,_=>by simp
 |d::y,m,hm=>by
  simp only[List.flatten_cons,a1,aZ,ey]
  rw[K4 y m (fun cs h=>hm cs (by simp[h])),hm d (by simp)];omega
end
section
variable {α : Type} {m : Nat} {C : lI α} {w : World} {xs : List α} {p : fD} {b o n cap : Nat}
end
structure Prog (b lo hi:Nat) (q:fD) (W w:World):Prop where
 ew:hr (fun k=>k=b\/q k) W w
 frozen:∀j,w.frozen? ⟨b,j,none⟩=W.frozen? ⟨b,j,none⟩
 jH:∀j,(j<lo\/hi<=j)->w.cell? ⟨b,j,none⟩=W.cell? ⟨b,j,none⟩
structure anK {α:Type} (m:Nat) (C:lI α) (w:World) (v:Value) (xs:List α) (p:fD) (i b o:Nat) (r:fD):Prop where
 aoR:p b
 lt:b<w.heap.size
 aoO:∀j,w.frozen? ⟨b,j,none⟩=false
 o7:¬r b
 sub:∀k,r k->p k/\k<w.heap.size
 put:∀(w':World) (im:List Value) (fW:α) (iA:fD),Prog b (o+i*m) (o+i*m+m) r w w'->(∀j c,im[j]? =some c->w'.cell? ⟨b,o+i*m+j,none⟩=some c)->C w' im fW iA->(∀k,iA k->p k/\(r k\/w.heap.size<=k))->TE m C w' v (xs.set i fW) p
section
variable {α : Type} (mk : α -> Nat -> α) (an1 : α -> Nat)
end
section
variable {α : Type} (f : α -> Nat)
end
theorem aj9 {β:Type} {l:List β} (h:l.length=1):∃c0,l=[c0]:=by
 match l,h with
 | [c0],_=>exact⟨c0,rfl⟩
theorem aka {β:Type} {l:List β} (h:l.length=2):∃c0 y,l=[c0,y]:=by
 match l,h with
 | [c0,y],_=>exact⟨c0,y,rfl⟩
theorem ak6 :ownKnob Tryz.prog.godebug=none:=by kernel_rfl
theorem BS :laidOutB Tryz.prog=true:=by kernel_rfl
section
variable {H : Type} {enc : TypeId × Value -> H} {P : Program} {w : World} {spare : Nat -> Bool} {held : Bool}
theorem alK {fuel:Nat} {t e:TypeId} {cs:List Value} {x:DataW H×List MemPlace} {α:Type} {m:Nat} {C:lI α} (K:0<m) (ax:P.underlying t=some (.slice e)) (hm:P.cellsOf e=m)
  (M:∀(n:Nat) (cs:List Value) (y:DataW H×List MemPlace),DataW.trod enc P w 0 spare held n e cs=some y->cs.length=m->∃d:α,C w cs d (fun _=>True))
  (h:DataW.trod enc P w 0 spare held fuel t cs=some x):∃v xs,cs=[v]/\vx m C w v xs (fun _=>True):=by
 rcases DataW.trod_slice ax h with⟨rfl,_⟩|⟨a,len,cap,elems,rest,n,_,rfl,_,_,bK,O,hlen,he,_⟩
 .exact ⟨_,[],rfl,vx.nil _ _ _ _⟩
 .rw [hm]at he
  obtain⟨xs,Q,bd⟩:=D6 (fun i (d:α)=>∃im,w.cells? 0 (a.add (i*m)) m=some im/\C w im d (fun _=>True)) len (fun i hi=>by
   have G:=he i hi
   rw[bH (by omega)]at G
   obtain⟨im,I,U⟩:=ju.1 G
   obtain⟨d,bc⟩:=M n im _ U (World.cells?_some I).2.1
   exact⟨d,im,I,bc⟩)
  refine⟨_,xs,rfl,some a,cap,by rw[Q],by simp only[maxLen]at O;exact⟨by omega,by omega⟩,fun i d bc=>?_⟩
  obtain⟨im,G,I⟩:=bd i d bc
  obtain⟨_,V,bB⟩:=World.cells?_some G
  have z:∀j c,im[j]? =some c->w.cell? (a.add (i*m+j))=some c:=by
   intro j c J
   obtain⟨Y,rfl⟩:=dx.1 J
   rw[<-Addr.add_add]
   exact(bB j (by omega)).trans J
  obtain⟨b,o,rfl⟩:∃b o,a=⟨b,o,none⟩:=by
   have hi:i<len:=by have:=(dx.1 bc).1;omega
   obtain⟨Z,cP,_⟩:=bd 0 (xs[0]'(by omega)) (by simp)
   obtain⟨_,aoI,BO⟩:=World.cells?_some cP
   have A:=BO 0 K
   rw[bH (by omega),Addr.add_add]at A
   obtain⟨b,o,sp⟩:=a
   cases sp with
   |none=>exact⟨b,o,rfl⟩
   |some sp=>
    exfalso
    simp only[World.cell?,Addr.add,Nat.zero_mul,lH,if_true]at A
    split at A
    .simp at A
    .cases A
  have au:b<w.heap.size:=by
   have A:=z 0 (im[0]'(by omega)) (by simp)
   rw[tb]at A
   exact lt_of_cell A
  exact⟨b,o,im,rfl,trivial,au,V,fun j c J=>by rw[mm,<-tb];exact z j c J,I⟩
end
inductive bf where
 |mk (kind:Int) (field:List UInt8) (words:List (List UInt8)) (aoo aoY:Int) (kids:List bf)
inductive aH where
 |bool
 |int (k:IntKind)
 |str
 |unit
 |pair (a b:aH)
 |av (r:aH)
 |opt (r:aH)
 |q
 deriving DecidableEq
@[reducible] def aH.D : aH -> Type
 | .bool=>Bool
 | .int _=>Int
 | .str=>List UInt8
 | .unit=>Unit
 | .pair a b=>a.D×b.D
 | .av r=>List r.D
 | .opt r=>Option r.D
 | .q=>bf
def aH.w :aH->Nat
 | .unit=>0
 | .pair a b=>a.w+b.w
 | .q=>6
 |_=>1
def aH.cj :aH->Bool
 | .pair a b=>a.cj&&b.cj
 | .av _=>false
 | .opt _=>false
 | .q=>false
 |_=>true
inductive b3 where
 |bool (b:Bool)
 |int (k:IntKind) (n:Int)
 |str (s:ByteArray)
 |av (rows:List (List b3))
 |opt (row:Option (List b3))
def b3.flat :b3->Prop
 | .av rows=>rows=[]
 | .opt _=>False
 |_=>True
def bytes (l:List UInt8):ByteArray:=⟨l.toArray⟩
mutual
def y5 :bf->List b3
 | .mk k f ws a b kids=>[.int .i64 k,.str (bytes f),.av (ws.map fun w=>[.str (bytes w)]),.int .i64 a,.int .i64 b,.av (y6 kids)]
def y6 :List bf->List (List b3)
 | []=>[]
 |x::xs=>y5 x::y6 xs
end
def enc :(t:aH)->t.D->List b3
 | .bool,b=>[.bool b]
 | .int k,n=>[.int k n]
 | .str,s=>[.str (bytes s)]
 | .unit,_=>[]
 | .pair a b,x=>enc a x.1++enc b x.2
 | .av r,xs=>[.av (xs.map (enc r))]
 | .opt r,x=>[.opt (x.map (enc r))]
 | .q,x=>y5 x
def aH.hO :(t:aH)->t.D->t.D->Bool
 | .bool,a,b=>a==b
 | .int _,a,b=>decide (a=b)
 | .str,a,b=>decide (a=b)
 | .unit,_,_=>true
 | .pair a b,x,y=>a.hO x.1 y.1&&b.hO x.2 y.2
 | .av _,_,_=>false
 | .opt _,_,_=>false
 | .q,_,_=>false
def b3.isLit :b3->Bool
 | .av _=>false
 | .opt _=>false
 |_=>true
def fq :b3->Value
 | .bool b=>.bool b
 | .int k n=>.int k n
 | .str s=>.string s
 |_=>undef
inductive ar where
 |dead
 |ag (t:aH) (x:t.D)
 |aQ
 |eK
 |agg (cs:List ar)
 |bM (cs:List ar)
 |box (k o:Nat)
 |ptr (t:aH) (x:t.D) (o:Nat)
 |own (n:Nat) (t:aH) (xs:List t.D)
 |aw (n:Nat)
 |fr (n i o:Nat)
 |iJ (g:Nat)
 |aU (f:FuncId) (cs:List ar)
 |sub (n l h:Nat)
inductive s5 where
 |row (t:aH) (x:t.D)
 |map (eb dD:aH) (agg:Bool) (es:List (eb.D×dD.D))
 |gh (k:IntKind) (zs:List Int)
 |cell (p:Value->Prop)
def bf.kind :bf->Int
 | .mk k _ _ _ _ _=>k
def bf.field :bf->List UInt8
 | .mk _ f _ _ _ _=>f
def bf.words :bf->List (List UInt8)
 | .mk _ _ ws _ _ _=>ws
def bf.lo :bf->Int
 | .mk _ _ _ a _ _=>a
def bf.hi :bf->Int
 | .mk _ _ _ _ b _=>b
def bf.kids :bf->List bf
 | .mk _ _ _ _ _ l=>l
def Uu (x:bf):List ar:=[.ag (.int .i64) x.kind,.ag .str x.field,.ag (.av .str) x.words,.ag (.int .i64) x.lo,.ag (.int .i64) x.hi,.ag (.av .q) x.kids]
def cellsOf :(t:aH)->t.D->List ar
 | .unit,_=>[]
 | .pair a b,x=>cellsOf a x.1++cellsOf b x.2
 | .q,x=>Uu x
 | .bool,x=>[.ag .bool x]
 | .int k,x=>[.ag (.int k) x]
 | .str,x=>[.ag .str x]
 | .av r,x=>[.ag (.av r) x]
 | .opt r,x=>[.ag (.opt r) x]
def ar.as (t:aH):ar->Option t.D
 | .ag dc x=>if h:dc=t then some (h▸x)else none
 | .own _ r xs=>if h:aH.av r=t then some (h▸(show(aH.av r).D from xs))else none
 | .aQ=>match t with
  | .av r=>some ([]:List r.D)
  |_=>none
 | .eK=>match t with
  | .opt r=>some (none:Option r.D)
  |_=>none
 | .ptr r x o=>if h:aH.opt r=t/\o=0 then some (h.1▸(show(aH.opt r).D from some x))else none
 |_=>none
def B2 :List ar->Option bf
 | [k,f,ws,a,b,kids]=>match k.as (.int .i64),f.as .str,ws.as (.av .str),a.as (.int .i64),b.as (.int .i64),kids.as (.av .q)with
  |some k,some f,some ws,some a,some b,some kids=>some (.mk k f ws a b kids)
  |_,_,_,_,_,_=>none
 |_=>none
def one (t:aH):List ar->Option t.D
 | [c]=>c.as t
 |_=>none
def hE :(t:aH)->List ar->Option t.D
 | .unit,cs=>match cs with
  | []=>some ()
  |_=>none
 | .pair a b,cs=>match hE a (cs.take a.w),hE b (cs.drop a.w)with
  |some x,some y=>some (x,y)
  |_,_=>none
 | .q,cs=>B2 cs
 | .bool,cs=>one .bool cs
 | .int k,cs=>one (.int k) cs
 | .str,cs=>one .str cs
 | .av r,cs=>one (.av r) cs
 | .opt r,cs=>one (.opt r) cs
def gone :Nat:=4000000000
structure Tok where
 t:aH
 xs:List t.D
 e:TypeId
 wr:Bool
 deep:Bool
 tr:Option (List (Nat×Nat×Nat))
def Tok.jf (aa:Tok):Tok:={aa with wr:=false,tr:=none}
def Tok.whole (aa:Tok):Bool:=match aa.tr with
 |none=>true
 |some []=>true
 |_=>false
def Tok.cn (aa:Tok):Tok:=bif aa.whole then aa.jf else aa
theorem Tok.zg {aa:Tok} (h:aa.whole=true):aa.cn=aa.jf:=by unfold Tok.cn;rw[h];rfl
theorem Tok.VX (aa:Tok):aa.cn.t=aa.t:=by unfold Tok.cn;cases aa.whole<;>rfl
theorem Tok.VV (aa:Tok):aa.cn.e=aa.e:=by unfold Tok.cn;cases aa.whole<;>rfl
theorem Tok.VU (aa:Tok):aa.cn.deep=aa.deep:=by unfold Tok.cn;cases aa.whole<;>rfl
theorem Tok.VW (aa:Tok):(⟨aa.cn.t,aa.cn.xs⟩:(t:aH)×List t.D)=⟨aa.t,aa.xs⟩:=by unfold Tok.cn;cases aa.whole<;>rfl
theorem Tok.anC {aa:Tok} (h:aa.whole=true) {aS:List (Nat×Nat×Nat)} (ax:aa.tr=some aS):aS=[]:=by
 unfold Tok.whole at h
 rw[ax]at h
 cases aS with
 |nil=>rfl
 |cons _ _=>cases h
inductive bb where
 |eg
 |live (aa:Tok)
structure cf where
 cn:Bool
 cs:List ar
structure bO where
 val:ar
 box:List (Nat×cf)
 tok:List (Nat×Option bb)
structure c6 where
 az:List Nat
 hH:List Nat
 rt:List Nat
 wt:List Nat
def gq (k:Nat):Bool:=Nat.ble 1000000000 k
def hR (k:Nat):Nat:=bif Nat.ble 2000000000 k then 2 else bif Nat.ble 1000000000 k then 1 else 0
theorem r5 {k:Nat}:gq k=false↔hR k=0:=by
 unfold gq hR
 cases h:Nat.ble 1000000000 k with
 |false=>
  cases y:Nat.ble 2000000000 k with
  |false=>simp
  |true=>simp only[Nat.ble_eq]at y;rw[<-Bool.not_eq_true,Nat.ble_eq]at h;omega
 |true=>cases Nat.ble 2000000000 k<;>simp
theorem PQ {k aJ:Nat} (h:hR k=hR aJ):gq k=gq aJ:=by
 cases y:gq k with
 |false=>exact(r5.2 (h▸r5.1 y)).symm
 |true=>cases z:gq aJ with
  |true=>rfl
  |false=>rw[r5.2 (h▸r5.1 z)]at y;cases y
def PY (n m:Nat):List Nat:=(List.range n).filter fun i=> !m.testBit i
noncomputable def TY {ρ:Type} (xs:List Nat) (F:Nat->Option ρ):Option ρ:=open Classical in if h:xs≠ []/\∃r,∀i,i∈xs->F i=some r then some (Classical.choose h.2)else none
def dT :List ar->Nat->ar
 | [],_=>.dead
 |x::_,0=>x
 |_::l,n+1=>dT l n
def jV :List ar->Nat->ar->List ar
 | [],_,_=>[]
 |_::l,0,v=>v::l
 |x::l,n+1,v=>x::jV l n v
def aY :List (Nat×cf)->Nat->Option cf
 | [],_=>none
 |(k,b)::l,j=>if j=k then some b else aY l j
def u0 :List (Nat×cf)->Nat->cf->List (Nat×cf)
 | [],k,b=>[(k,b)]
 |(j,c)::l,k,b=>if j=k then(k,b)::l else(j,c)::u0 l k b
def aF :List (Nat×Option bb)->Nat->Option bb
 | [],_=>none
 |(k,x)::l,j=>if j=k then x else aF l j
def jo :List (Nat×Option bb)->Nat->Option bb->List (Nat×Option bb)
 | [],k,x=>[(k,x)]
 |(j,y)::l,k,x=>if j=k then(k,x)::l else(j,y)::jo l k x
structure aX where
 L:List ar
 B:List (Nat×cf)
 T:List (Nat×Option bb)
def aX.app (s:aX) (d:Option Nat) (e:bO):aX:=
 ⟨match d with|some d=>jV s.L d e.val|none=>s.L,e.box.foldl (fun B x=>u0 B x.1 x.2) s.B,e.tok.foldl (fun T x=>jo T x.1 x.2) s.T⟩
end Go.Proofs.YtnkagklajgimlaaGreatDoor
namespace Go.Proofs.YtnkagklajgimlaaGreatDoor
def qj (v:Value):Prop:=∃m,v= .int .i64 m
def rM (v:Value):Prop:=v= .nilIface\/ ∃y z,v= .iface y z
def fP :List (Int×(Bool×Int×Int×Int×Int×Bool×Int×Int)):=[((1:Int),(false,(0:Int),(0:Int),(0:Int),(0:Int),false,(0:Int),(0:Int))),((2:Int),(true,(1:Int),(1:Int),(0:Int),(0:Int),false,(0:Int),(0:Int))),((3:Int),(true,(2:Int),(4:Int),(0:Int),(5:Int),false,(0:Int),(0:Int))),((4:Int),(true,(1:Int),(1:Int),(1:Int),(2:Int),false,(0:Int),(0:Int))),((5:Int),(true,(1:Int),(1:Int),(0:Int),(0:Int),false,(0:Int),(0:Int))),((6:Int),(true,(0:Int),(0:Int),(0:Int),(999999999:Int),true,(0:Int),(0:Int))),((7:Int),(false,(0:Int),(0:Int),(0:Int),(0:Int),false,(2:Int),(4:Int))),((8:Int),(false,(0:Int),(0:Int),(0:Int),(0:Int),false,(2:Int),(4:Int))),((9:Int),(false,(0:Int),(0:Int),(0:Int),(0:Int),false,(2:Int),(2:Int))),((10:Int),(false,(0:Int),(0:Int),(2:Int),(9:Int),false,(1:Int),(1:Int)))]
def nK :List (Nat×s5):=[
 (6,.row (.pair (.int .i64) (.int .i64)) ((0:Int),(1:Int))),
 (0,.map (.int .i64) (.pair .bool (.pair (.int .i64) (.pair (.int .i64) (.pair (.int .i64) (.pair (.int .i64) (.pair .bool (.pair (.int .i64) (.int .i64)))))))) true fP),
 (2,.gh .u64 [1,10,100,1000,10000,100000,1000000,10000000,100000000,1000000000,10000000000,100000000000,1000000000000,10000000000000,100000000000000,1000000000000000,10000000000000000,100000000000000000,1000000000000000000,10000000000000000000]),
 (5,.cell qj),
 (3,.cell rM),
 (4,.cell rM),
 ]
end Go.Proofs.YtnkagklajgimlaaGreatDoor
namespace Go.Proofs.YtnkagklajgimlaaGreatDoor
open Go.RowKit
structure bw where
 agg:Bool
 size:Nat
 zero:List ar
 elem:Option (TypeId×aH×Nat)
 iR:List (Nat×Nat)
 str:Bool
 bool:Bool
 int:Option IntKind
 eqs:Option aH
 mp:Option (TypeId×TypeId×aH×aH)
 ptr:Bool
 vW:List (TypeId×Nat)
 zk:Option (TypeId×TypeId×aH×aH×Bool)
inductive b8 where
 |dead
 |ag (t:aH)
 |aQ
 |eK
 |box (k o:Nat)
 |ptr (t:aH)
 |own (n:Nat) (t:aH) (e:TypeId) (deep:Bool)
 |aw (n:Nat) (t:aH) (e:TypeId) (deep:Bool)
 |kn (n:Nat) (t:aH) (e:TypeId)
 |qQ (n:Nat) (t:aH) (e:TypeId)
 |agg (l:List b8)
 |bM (l:List b8)
 |aU (f:FuncId) (l:List b8)
structure ay where
 vals:List b8
 boxes:List (Nat×Bool×List b8)
def QY :List aH->aH
 | []=>.unit
 | [t]=>t
 |t::u::l=>.pair t (QY (u::l))
mutual
def b8.fm :b8->List aH
 | .ag t=>[t]
 | .ptr t=>[t]
 | .own _ t _ _=>[.av t]
 | .aw _ t _ _=>[.av t]
 | .kn _ t _=>[.av t]
 | .qQ _ t _=>[.pair (.av t) (.int .i64)]
 | .agg l=>b8.pW l
 | .bM l=>b8.pW l
 | .aU _ l=>[QY (b8.pW l)]
 |_=>[]
def b8.pW :List b8->List aH
 | []=>[]
 |v::l=>v.fm++b8.pW l
end
def J9 :List (Nat×Bool×List b8)->List aH
 | []=>[]
 |b::l=>b8.pW b.2.2++J9 l
def ay.fm (s:ay):List aH:=b8.pW s.vals++J9 s.boxes
@[reducible] def fZ : List aH -> Type
 | []=>Unit
 | [t]=>t.D
 |t::u::l=>t.D×fZ (u::l)
abbrev gN :=(t:aH)×t.D
def unpack :(l:List aH)->fZ l->List gN
 | [],_=>[]
 | [t],x=>[⟨t,x⟩]
 |t::u::l,x=>⟨t,x.1⟩::unpack (u::l) x.2
def pack :(l:List aH)->List gN->Option (fZ l)
 | [],ps=>match ps with
  | []=>some ()
  |_=>none
 | [t],ps=>match ps with
  | [p]=>if h:p.1=t then some (h▸p.2)else none
  |_=>none
 |t::u::l,ps=>match ps with
  |p::ps=>if h:p.1=t then match pack (u::l) ps with
    |some y=>some (h▸p.2,y)
    |none=>none
   else none
  | []=>none
def uQ :List gN->gN
 | []=>⟨.unit,()⟩
 | [p]=>p
 |p::q::l=>⟨.pair p.1 (uQ (q::l)).1,(p.2,(uQ (q::l)).2)⟩
def Dn :Nat->gN->List gN
 |0,_=>[]
 |1,p=>[p]
 |n+2,⟨.pair a b,x⟩=>⟨a,x.1⟩::Dn (n+1) ⟨b,x.2⟩
 |_+2,_=>[]
theorem Td :∀l:List gN,Dn l.length (uQ l)=l
 | []=>rfl
 | [p]=>rfl
 |p::q::l=>by
  show(⟨p.1,p.2⟩:gN)::Dn (l.length+1) (uQ (q::l))=_
  rw[show l.length+1=(q::l).length from rfl,Td (q::l)]
def Hr :Option (List (Nat×Nat×Nat))->Option Nat
 |some [(k,m,d)]=>if m=gone/\d=gone then some k else none
 |_=>none
structure Acc where
 ps:List gN
 rt:List (Nat×Option Nat)
 az:List (Nat×Nat)
 dA:List Nat
 c8:List Nat
 mt:List Nat
 gX:List Nat
def bV {α:Type}:List (Nat×α)->Nat->Option α
 | [],_=>none
 |(k,x)::l,j=>if j=k then some x else bV l j
section
variable (B : List (Nat × cf)) (T : List (Nat × Option bb))
def yL (a:Acc) (k aJ:Nat):Option Acc:=match bV a.az k with
 |some j=>if j=aJ then some a else none
 |none=>if a.az.any (fun x=>x.2==aJ)then none else some {a with az:=a.az++ [(k,aJ)]}
def kA (a:Acc) (n:Nat) (y:Option Nat) (p:gN):Option Acc:=match bV a.rt n with
 |some _=>none
 |none=>if y.isSome&&a.rt.any (fun x=>x.2==y)then none else some {a with rt:=a.rt++ [(n,y)],ps:=a.ps++ [p]}
mutual
def conv :b8->ar->Acc->Option Acc
 | .dead,_,a=>some a
 | .ag t,x,a=>match x with
  | .aw n=>match aF T n with
   |some (.live aa)=>if aH.av aa.t=t/\aa.whole=true then some {a with ps:=a.ps++ [⟨.av aa.t,aa.xs⟩],c8:=a.c8++ [n]}else none
   |_=>none
  |x=>match x.as t with
   |some y=>some {a with ps:=a.ps++ [⟨t,y⟩]}
   |none=>none
 | .aQ,x,a=>match x with
  | .aQ=>some a
  |_=>none
 | .eK,x,a=>match x with
  | .eK=>some a
  |_=>none
 | .box k o,x,a=>match x with
  | .box aJ I=>if I=o then yL a k aJ else none
  |_=>none
 | .ptr t,x,a=>match x with
  | .ptr dc y o=>match hE t (((cellsOf dc y).drop o).take t.w)with
   |some z=>some {a with ps:=a.ps++ [⟨t,z⟩]}
   |none=>none
  | .box k o=>match aY B k with
   |some b=>match hE t ((b.cs.drop o).take t.w)with
    |some z=>some {a with ps:=a.ps++ [⟨t,z⟩],dA:=a.dA++ [k]}
    |none=>none
   |none=>none
  |_=>none
 | .own n t e deep,x,a=>match x with
  | .own A dc xs=>match aF T A with
   |some (.live aa)=>if dc=t/\aa.e=e/\(deep=true->aa.deep=true)then kA a n (some A) ⟨.av dc,xs⟩else none
   |_=>none
  | .aw A=>match aF T A with
   |some (.live aa)=>if aa.t=t/\aa.e=e/\(deep=true->aa.deep=true)/\aa.whole=true then(kA a n (some A) ⟨.av aa.t,aa.xs⟩).map fun a=>{a with c8:=a.c8++ [A]}else none
   |_=>none
  | .aQ=>kA a n none ⟨.av t,[]⟩
  |_=>none
 | .aw n t e deep,x,a=>match x with
  | .aw A=>match aF T A with
   |some (.live aa)=>if aa.t=t/\aa.e=e/\aa.wr=true/\(deep=true->aa.deep=true)/\aa.tr=none then(kA a n (some A) ⟨.av aa.t,aa.xs⟩).map fun a=>{a with mt:=a.mt++ [A]}else none
   |_=>none
  | .aQ=>kA a n none ⟨.av t,[]⟩
  |_=>none
 | .kn n t e,x,a=>match x with
  | .aw A=>match aF T A with
   |some (.live aa)=>if aa.t=t/\aa.e=e/\aa.tr=some []then(kA a n (some A) ⟨.av aa.t,aa.xs⟩).map fun a=>{a with mt:=a.mt++ [A]}else none
   |_=>none
  | .aQ=>kA a n none ⟨.av t,[]⟩
  |_=>none
 | .qQ n t e,x,a=>match x with
  | .aw A=>match aF T A with
   |some (.live aa)=>match Hr aa.tr with
    |some k=>if aa.t=t/\aa.e=e then(kA a n (some A) ⟨.pair (.av aa.t) (.int .i64),((aa.xs,(k:Int)):List aa.t.D×Int)⟩).map fun a=>{a with mt:=a.mt++ [A]}else none
    |none=>none
   |_=>none
  |_=>none
 | .agg l,x,a=>match x with
  | .agg cs=>gy l cs a
  |_=>none
 | .bM l,x,a=>match x with
  | .bM cs=>gy l cs a
  |_=>none
 | .aU f l,x,a=>match x with
  | .aU g cs=>if g=f then(match gy l cs {a with ps:=[]}with
   |some G=>if G.ps.length=(b8.pW l).length then some {G with ps:=a.ps++ [uQ G.ps]}else none
   |none=>none)else none
  |_=>none
def gy :List b8->List ar->Acc->Option Acc
 | [],[],a=>some a
 |v::l,x::xs,a=>(conv v x a).bind fun a=>gy l xs a
 |_,_,_=>none
end
def pX :List (Nat×Bool×List b8)->Acc->Option Acc
 | [],a=>some a
 |(k,cn,bQ)::l,a=>
  let aJ:=(bV a.az k).getD k
  match aY B aJ with
  |some b=>if b.cn=true->cn=true then(yL a k aJ).bind fun a=>(gy B T bQ b.cs {a with dA:=if cn then a.dA++ [aJ]else a.dA,gX:=if cn then a.gX else a.gX++ [aJ]}).bind fun a=>pX l a else none
  |none=>none
def JL (s:ay) (a:Acc):Bool:=a.mt.all (fun n=> !a.c8.contains n)&&a.gX.all (fun k=> !a.dA.contains k)&&a.az.all (fun x=>s.boxes.any fun b=>b.1==x.1)&&a.az.all (fun x=>hR x.1==hR x.2)&&a.dA.all (fun k=> !gq k)
def ay.conv (s:ay) (xs:List ar):Option (fZ s.fm×Acc):=
 (gy B T s.vals xs ⟨[],[],[],[],[],[],[]⟩).bind fun a=>(pX B T s.boxes a).bind fun a=>if JL s a then(pack s.fm a.ps).map fun y=>(y,a)else none
end
mutual
def inst :b8->List gN->ar×List gN×List (Nat×Option bb)
 | .dead,ps=>(.dead,ps,[])
 | .ag t,ps=>match ps with
  |p::ps=>(.ag p.1 p.2,ps,[])
  | []=>(.dead,[],[])
 | .aQ,ps=>(.aQ,ps,[])
 | .eK,ps=>(.eK,ps,[])
 | .box k o,ps=>(.box k o,ps,[])
 | .ptr t,ps=>match ps with
  |p::ps=>(.ptr p.1 p.2 0,ps,[])
  | []=>(.dead,[],[])
 | .own n t e deep,ps=>match ps with
  |⟨.av r,xs⟩::ps=>(.own n r xs,ps,[(n,some (.live ⟨r,xs,e,false,deep,none⟩))])
  |_=>(.dead,[],[])
 | .aw n t e deep,ps=>match ps with
  |⟨.av r,xs⟩::ps=>(.aw n,ps,[(n,some (.live ⟨r,xs,e,true,deep,none⟩))])
  |_=>(.dead,[],[])
 | .kn n t e,ps=>match ps with
  |⟨.av r,xs⟩::ps=>(.aw n,ps,[(n,some (.live ⟨r,xs,e,true,true,some []⟩))])
  |_=>(.dead,[],[])
 | .qQ n t e,ps=>match ps with
  |⟨.pair (.av r) (.int .i64),x⟩::ps=>(.aw n,ps,[(n,some (.live ⟨r,x.1,e,true,true,some [(Int.toNat x.2,gone,gone)]⟩))])
  |_=>(.dead,[],[])
 | .agg l,ps=>match hA l ps with
  |(xs,ps,y)=>(.agg xs,ps,y)
 | .bM l,ps=>match hA l ps with
  |(xs,ps,y)=>(.bM xs,ps,y)
 | .aU f l,ps=>match ps with
  |p::ps=>match hA l (Dn (b8.pW l).length p)with
   |(xs,_,y)=>(.aU f xs,ps,y)
  | []=>(.dead,[],[])
def hA :List b8->List gN->List ar×List gN×List (Nat×Option bb)
 | [],ps=>([],ps,[])
 |v::l,ps=>match inst v ps with
  |(x,ps,y)=>match hA l ps with
   |(xs,ps,us)=>(x::xs,ps,y++us)
end
def l4 :List (Nat×Bool×List b8)->List gN->List (Nat×cf)×List (Nat×Option bb)
 | [],_=>([],[])
 |(k,cn,bQ)::l,ps=>match hA bQ ps with
  |(xs,ps,y)=>match l4 l ps with
   |(z,us)=>((k,⟨cn,xs⟩)::z,y++us)
def ay.mk' (s:ay) (y:fZ s.fm):aX:=match hA s.vals (unpack s.fm y)with
 |(xs,ps,z)=>match l4 s.boxes ps with
  |(A,us)=>⟨xs,A,z++us⟩
structure Model where
 arg:ay
 ret:ay
 run:fZ arg.fm->Option (fZ ret.fm)
structure Env where
 P:Program
 ty:TypeId->Option bw
 fn:FuncId->List Model
 wr:Nat->Bool
 res:Nat->Bool
 dw:Nat->Bool
inductive bh :Type 1 where
 |ret (e:bO)
 |box (k:Nat) (f:Option cf->bh)
 |tok (t:Nat) (f:Option bb->bh)
 |gE (p:Prop) (d:Decidable p) (f:bh)
 |get {α:Type} (o:Option α) (f:α->bh)
 |q7 (b:Bool) (f g:bh)
 |fail
def bO.boxes (e:bO):List Nat:=e.box.map (·.1)
def bO.bG (e:bO):List Nat:=e.tok.map (·.1)
def bh.run {ρ:Type}:bh->aX->List Nat->List Nat->(bO->c6->Option ρ)->Option ρ
 | .ret e,_,az,rt,K=>K e ⟨az,e.boxes,rt,e.bG⟩
 | .box k f,s,az,rt,K=>(f (aY s.B k)).run s (k::az) rt K
 | .tok t f,s,az,rt,K=>(f (aF s.T t)).run s az (t::rt) K
 | .gE p d f,s,az,rt,K=> @ite _ p d (f.run s az rt K) none
 | .get o f,s,az,rt,K=>o.bind fun x=>(f x).run s az rt K
 | .q7 b f g,s,az,rt,K=>match b with
  |true=>f.run s az rt K
  |false=>g.run s az rt K
 | .fail,_,_,_,_=>none
def bh.val (x:ar):bh:=.ret ⟨x,[],[]⟩
def fits (n:Int):Prop:=-9223372036854775808<=n/\n<=9223372036854775807
instance (n:Int):Decidable (fits n):=inferInstanceAs (Decidable (_/\_))
abbrev gE (p:Prop) [d:Decidable p] (f:bh):bh:=.gE p d f
def room (n m b:Nat):Prop:=(n+m)*b<=140737488355328/\n+m<=9223372036854775807
instance (n m b:Nat):Decidable (room n m b):=inferInstanceAs (Decidable (_/\_))
def idx {α:Type} (xs:List α) (i:Int):Option α:=if 0<=i then xs[i.toNat]? else none
def cut {α:Type} (xs:List α) (l h:Int):Option (List α):=if 0<=l/\l<=h/\h<=xs.length then some ((xs.take h.toNat).drop l.toNat)else none
def ar.cells? :ar->Option (List ar)
 | .dead=>none
 | .bM _=>none
 | .agg cs=>some cs
 |x=>some [x]
def ar.leaf :ar->Bool
 | .agg _=>false
 | .bM _=>false
 | .aU _ _=>false
 |_=>true
def Kq :Value->ar
 | .bool b=>.ag .bool b
 | .int k n=>.ag (.int k) n
 | .string s=>.ag .str s.data.toList
 | .slice none 0 0=>.aQ
 | .pointer none=>.eK
 |_=>.dead
def aX.aP (s:aX):Operand->ar
 | .tmp t=>dT s.L t
 | .const v=>Kq v
 | .global _=>.dead
 | .func f=>.aU f []
def vT (iR:List (Nat×Nat)):List ar->List (Nat×ar)->Option (List ar)
 |cells,[]=>some cells
 |cells,(i,x)::rest=>
  match iR[i]?,x.cells? with
  |some (off,size),some cs=>if cs.length=size/\off+size<=cells.length then vT iR (cells.take off++cs++cells.drop (off+size)) rest else none
  |_,_=>none
def pR (k:IntKind) (n:Int):bh:=
 match k with
 | .i64=>gE (fits n) (.val (.ag (.int .i64) n))
 |k=>.val (.ag (.int k) (k.wrap n))
def dS (op:BinOp) (k:IntKind) (x y:Int):Int:=
 let a:=BitVec.ofInt k.bits x
 let b:=BitVec.ofInt k.bits y
 match op with
 | .and=>k.wrap (a&&&b).toNat
 | .or=>k.wrap (a|||b).toNat
 | .xor=>k.wrap (a^^^b).toNat
 |_=>k.wrap (a&&& ~~~b).toNat
def yK (op:BinOp) (k:IntKind) (a b:Int):bh:=
 match op with
 | .shl=>gE (0<=b) (pR k (a*2^(min b.toNat k.bits)))
 | .shr=>gE (0<=b) (.val (.ag (.int k) (a.fdiv (2^(min b.toNat k.bits)))))
 | .add=>pR k (a+b)
 | .sub=>pR k (a-b)
 | .mul=>pR k (a*b)
 | .quo=>gE (b≠0) (pR k (a.tdiv b))
 | .rem=>gE (b≠0) (.val (.ag (.int k) (a.tmod b)))
 | .and=>.val (.ag (.int k) (dS .and k a b))
 | .or=>.val (.ag (.int k) (dS .or k a b))
 | .xor=>.val (.ag (.int k) (dS .xor k a b))
 | .andNot=>.val (.ag (.int k) (dS .andNot k a b))
 | .eql=>.val (.ag .bool (decide (a=b)))
 | .neq=>.val (.ag .bool (!decide (a=b)))
 | .lss=>.val (.ag .bool (decide (a<b)))
 | .leq=>.val (.ag .bool (decide (a<=b)))
 | .gtr=>.val (.ag .bool (decide (b<a)))
 | .geq=>.val (.ag .bool (decide (b<=a)))
def T8 (op:BinOp) (a b:List UInt8):bh:=
 match op with
 | .add=>gE (a.length+b.length<=9223372036854775807) (.val (.ag .str (a++b)))
 | .eql=>.val (.ag .bool (decide (a=b)))
 | .neq=>.val (.ag .bool (!decide (a=b)))
 | .lss=>.val (.ag .bool (Op.bytesLess a b))
 | .leq=>.val (.ag .bool (Op.bytesLess a b||decide (a=b)))
 | .gtr=>.val (.ag .bool (!(Op.bytesLess a b||decide (a=b))))
 | .geq=>.val (.ag .bool (!Op.bytesLess a b))
 |_=>.fail
def T7 (op:BinOp) (a b:Bool):bh:=
 match op with
 | .eql=>.val (.ag .bool (a==b))
 | .neq=>.val (.ag .bool (!(a==b)))
 |_=>.fail
def isNil (x:ar):Option Bool:=match x with
 | .eK=>some true
 | .ptr _ _ _=>some false
 | .ag (.opt _) y=>some (Option.isNone y)
 |_=>none
def QZ (z:Bool) (op:BinOp) (x y:ar):bh:=
 match y with
 | .eK=>match isNil x with
  |some b=>if z then match op with
   | .eql=>.val (.ag .bool b)
   | .neq=>.val (.ag .bool (!b))
   |_=>.fail
   else .fail
  |none=>.fail
 |_=>.fail
def DX (z A:Bool) (op:BinOp) (x y:ar):bh:=
 match x with
 | .ag (.int k) a=>match y with
  | .ag (.int aJ) b=>match op with
   | .shl=>yK .shl k a b
   | .shr=>yK .shr k a b
   |op=>if k=aJ then yK op k a b else .fail
  |_=>.fail
 | .ag .str a=>match y with
  | .ag .str b=>T8 op a b
  |_=>.fail
 | .ag .bool a=>match y with
  | .ag .bool b=>if z then T7 op a b else .fail
  |_=>.fail
 |x=>QZ A op x y
def DO (x y:ar):Option (List ar×List ar):=match x with
 | .agg xs=>match y with
  | .agg ys=>some (xs,ys)
  |_=>none
 |_=>none
def DN (r:Option aH) (op:BinOp) (xs ys:List ar):bh:=
 match r with
 |none=>.fail
 |some r=>match hE r xs with
  |none=>.fail
  |some a=>match hE r ys with
   |none=>.fail
   |some b=>match op with
    | .eql=>.val (.ag .bool (r.hO a b))
    | .neq=>.val (.ag .bool (!r.hO a b))
    |_=>.fail
def Tc (op:UnOp) (x:ar):bh:=
 match x with
 | .ag .bool b=>match op with
  | .not=>.val (.ag .bool (!b))
  |_=>.fail
 | .ag (.int k) n=>match op with
  | .neg=>pR k (0-n)
  | .xor=>.val (.ag (.int k) (dS .xor k (if k.signed then-1 else k.max) n))
  |_=>.fail
 |_=>.fail
def bytesOf (xs:List Int):List UInt8:=xs.map fun n=>UInt8.ofNat n.toNat
def vh (r:aH) (x:ar) (f:List r.D->bh):bh:=
 match x with
 | .aw n=>.tok n fun z=>match z with
  |some (.live aa)=>if h:aa.t=r/\aa.tr=none then f (h.1▸aa.xs)else .fail
  |_=>.fail
 |x=>match x.as (.av r)with
  |some xs=>f xs
  |none=>.fail
def qR (x:ar) (f:Int->bh):bh:=
 match x with
 | .ag (.int _) n=>f n
 |_=>.fail
def se (d:Int) (x:Option ar) (f:Int->bh):bh:=
 match x with
 |none=>f d
 |some x=>qR x f
def p6 :List ar->(List (Nat×Option bb)->Bool->bh)->bh
 | [],f=>f [] true
 | .own t _ _::l,f=>.tok t fun x=>p6 l fun es p=>f ((t,some .eg)::es) ((match x with|some (.live aa)=>aa.deep|_=>false)&&p&&es.all fun y=>y.1 !=t)
 | .ag t _::l,f=>p6 l fun es q=>f es (t.cj&&q)
 | .aQ::l,f=>p6 l fun es q=>f es q
 |_::l,f=>p6 l fun es q=>f es false
def qx (r:aH):Nat->List ar->Option (List r.D)
 |0,_=>some []
 |n+1,cs=>match hE r (cs.take r.w),qx r n (cs.drop r.w)with
  |some x,some xs=>some (x::xs)
  |_,_=>none
def qC :Nat->Nat->List (Nat×ar)->Option (List ar)
 |_,_,[]=>some []
 |m,i,(j,x)::l=>if i=j then match x.cells?,qC m (i+1) l with
   |some cs,some ds=>if cs.length=m then some (cs++ds)else none
   |_,_=>none
  else none
def py (d j:Nat):Nat:=1000*(d+1)+j
def mR (E:Env) (d:Nat) (r:aH) (xs:List r.D) (e:TypeId) (deep:Bool) (es:List (Nat×Option bb)):bh:=
 .tok d fun x=>match x with
  |some _=>.fail
  |none=>if es.any (fun y=>y.1==d)||E.res d then .fail else if E.wr d then .ret ⟨.aw d,[],es++ [(d,some (.live ⟨r,xs,e,true,deep,none⟩))]⟩else .ret ⟨.own d r xs,[],es++ [(d,some (.live ⟨r,xs,e,false,deep,none⟩))]⟩
def nC :Option bb->Bool
 |some (.live aa)=>aa.deep
 |_=>false
def vB (E:Env) (d:Nat) (e:TypeId) (r:aH) (G:Nat) (deep:Bool) (A:List (Nat×Option bb)) (wr:Bool) (xs:List r.D) (src:ar):bh:=
 let fin (ys:List r.D) (es:List (Nat×Option bb)) (deep:Bool):bh:=
  gE (room xs.length ys.length G)
   (if E.wr d=wr then mR E d r (xs++ys) e deep es else .fail)
 match src with
 | .aw n=>.tok n fun z=>match z with
  |some (.live aa)=>if h:aa.t=r/\aa.tr=none then if r.cj then fin (h.1▸aa.xs) A deep else if A.any (fun y=>y.1==n)then .fail else fin (h.1▸aa.xs) (A++ [(n,some .eg)]) (deep&&aa.deep)else .fail
  |_=>.fail
 | .own n iA ys=>if h:iA=r then if r.cj then fin (h▸ys) A deep else if A.any (fun y=>y.1==n)then .fail else .tok n fun z=>fin (h▸ys) (A++ [(n,some .eg)]) (deep&&nC z)else .fail
 |src=>match src.as (.av r)with
  |some ys=>fin ys A (deep&&r.cj)
  |none=>.fail
def uF (E:Env) (d:Nat) (r:aH) (xs:List r.D) (e:TypeId) (es:List (Nat×Option bb)):bh:=
 .tok d fun x=>match x with
  |some _=>.fail
  |none=>if es.any (fun y=>y.1==d)||E.res d then .fail else if E.wr d=true/\r.cj=false then .ret ⟨.aw d,[],es++ [(d,some (.live ⟨r,xs,e,true,true,some []⟩))]⟩else .fail
def yG (E:Env) (d:Nat) (e:TypeId) (r:aH) (y:Nat) (t:Nat) (xs:List r.D) (src:ar):bh:=match src with
 | .aw n=>.tok n fun z=>match z with
  |some (.live aa)=>if h:aa.t=r/\aa.tr=some []then if n==t then .fail else gE (room xs.length aa.xs.length y) (uF E d r (xs++h.1▸aa.xs) e [(t,some .eg),(n,some .eg)])else .fail
  |_=>.fail
 |_=>.fail
mutual
def ar.bG :ar->List Nat
 | .own n _ _=>[n]
 | .aw n=>[n]
 | .sub n _ _=>[n]
 | .agg l=>ar.km l
 | .bM l=>ar.km l
 | .aU _ l=>ar.km l
 |_=>[]
def ar.km :List ar->List Nat
 | []=>[]
 |x::l=>x.bG++ar.km l
end
mutual
def ar.Uk :ar->List Nat
 | .box k _=>[k]
 | .agg l=>ar.te l
 | .bM l=>ar.te l
 | .aU _ l=>ar.te l
 |_=>[]
def ar.te :List ar->List Nat
 | []=>[]
 |x::l=>x.Uk++ar.te l
end
def xH :List Nat->List (Nat×cf)->(List (Nat×cf)->bh)->bh
 | [],B,f=>f B
 |k::l,B,f=>.box k fun b=>match b with
  |some b=>xH l (u0 B k b) f
  |none=>.fail
def xI :List Nat->List (Nat×Option bb)->(List (Nat×Option bb)->bh)->bh
 | [],T,f=>f T
 |k::l,T,f=>.tok k fun z=>xI l (jo T k z) f
def DZ :List (Nat×cf)->List Nat
 | []=>[]
 |(_,b)::l=>ar.km b.cs++DZ l
def xE (B:List (Nat×cf)) (T:List (Nat×Option bb)) (xs:List ar) (f:(m:Model)->fZ m.arg.fm->Acc->bh):List Model->bh
 | []=>.fail
 |m::l=>match m.arg.conv B T xs with
  |some (a,acc)=>f m a acc
  |none=>xE B T xs f l
def vV (E:Env):List Nat->bh->bh
 | [],r=>r
 |t::l,r=>.tok t fun x=>match x with
  |none=>if E.res t then .fail else vV E l r
  |some _=>.fail
def zf (E:Env):List Nat->bh->bh
 | [],r=>r
 |t::l,r=>.box t fun x=>match x with
  |none=>if E.res t then .fail else zf E l r
  |some _=>.fail
def xJ (d:Nat) (az:List (Nat×Nat)) (k:Nat):Nat:=(bV az k).getD (py d k)
def Cx (d:Nat) (rt:List (Nat×Option Nat)) (n:Nat):Nat:=match bV rt n with
 |some (some y)=>y
 |_=>py d n
mutual
def ar.sq (z y:Nat->Nat):ar->ar
 | .box k o=>.box (z k) o
 | .own n t xs=>.own (y n) t xs
 | .aw n=>.aw (y n)
 | .fr n i o=>.fr (y n) i o
 | .sub n l h=>.sub (y n) l h
 | .agg l=>.agg (ar.jU z y l)
 | .bM l=>.bM (ar.jU z y l)
 | .aU f l=>.aU f (ar.jU z y l)
 |x=>x
def ar.jU (y z:Nat->Nat):List ar->List ar
 | []=>[]
 |x::l=>x.sq y z::ar.jU y z l
end
def J3 (T:List (Nat×Option bb)) (acc:Acc) (x:Nat×Option bb):Bool:=match bV acc.rt x.1 with
 |some (some n)=>match aF T n,x.2 with
  |some (.live aa),some (.live bY)=>aa.wr&&decide (bY.t=aa.t)&& !acc.c8.contains n
  |_,_=>false
 |_=>true
def r7 (z:Option bb):Bool:=match z with
 |some (.live _)=>true
 |_=>false
def wQ (acc:Acc) (n:Nat):Bool:=match bV acc.rt n with
 |some (some _)=>true
 |_=>false
def Kf (d:Nat) (B:List (Nat×cf)) (T:List (Nat×Option bb)) (acc:Acc) (y:aX):Bool:=
 acc.dA.all (fun k=>(aY B k).isSome)&&acc.c8.all (fun n=>r7 (aF T n))&&acc.az.all (fun x=>(aY y.B x.1).isSome)&&decide ((y.B.map (·.1)).Nodup)&&decide ((y.T.map (·.1)).Nodup)&&y.T.all (J3 T acc)&&y.T.all (fun x=>r7 x.2)&&y.B.all (fun x=>hR (xJ d acc.az x.1)==hR x.1)
def vX (T:List (Nat×Option bb)) (n:Nat):Option (Nat×Option bb):=match aF T n with
 |some (.live aa)=>some (n,some (.live aa.cn))
 |_=>none
def Kg (E:Env) (d:Option Nat) (B:List (Nat×cf)) (T:List (Nat×Option bb)) (acc:Acc) (A:aX):bh:=
 let y:=xJ (d.getD 0) acc.az
 let z:=Cx (d.getD 0) acc.rt
 let G:List (Nat×cf):=acc.dA.filterMap fun k=>(aY B k).map fun b=>(k,{b with cn:=true})
 let I:List (Nat×Option bb):=acc.c8.filterMap (vX T)
 let used:=acc.rt.filterMap (·.2)
 let J:=A.B.map fun x=>(y x.1,(⟨x.2.cn,ar.jU y z x.2.cs⟩:cf))
 let K:=A.T.map fun x=>(z x.1,x.2)
 if Kf (d.getD 0) B T acc A then
  zf E ((A.B.filter fun x=>(bV acc.az x.1).isNone).map fun x=>y x.1)<|
  vV E ((A.T.filter fun x=> !wQ acc x.1).map fun x=>z x.1)<|
  match A.L with
  | []=>.fail
  |v::_=>.ret ⟨match d with|some _=>v.sq y z|none=>.dead,G++J,I++((used.map fun n=>(n,some .eg))++K)⟩
 else .fail
mutual
def ar.clean :ar->Bool
 | .ag t _=>t.cj
 | .own _ _ _=>true
 | .aQ=>true
 | .dead=>true
 | .agg l=>ar.oK l
 | .bM l=>ar.oK l
 |_=>false
def ar.oK :List ar->Bool
 | []=>true
 |x::l=>x.clean&&ar.oK l
end
mutual
def ar.toM (ρ:Nat->Nat):ar->ar
 | .own n _ _=>.aw (ρ n)
 | .agg l=>.agg (ar.x7 ρ l)
 | .bM l=>.bM (ar.x7 ρ l)
 |x=>x
def ar.x7 (ρ:Nat->Nat):List ar->List ar
 | []=>[]
 |x::l=>x.toM ρ::ar.x7 ρ l
end
def me (aa:Tok):Tok:=⟨aa.t,aa.xs,aa.e,true,true,bif aa.t.cj then none else some []⟩
def QK (x:Nat×Option bb):Bool:=match x.2 with
 |some (.live aa)=>aa.deep&& !aa.wr&&aa.tr.isNone
 |_=>false
def yb (ρ:Nat->Nat) (x:Nat×Option bb):Nat×Option bb:=match x.2 with
 |some (.live aa)=>(ρ x.1,some (.live (me aa)))
 |z=>(ρ x.1,z)
def P0 (E:Env) (d:Option Nat) (y:aX):bh:=
 let z:=py (d.getD 0)
 if y.B.isEmpty=true/\y.T.all QK=true/\(y.T.map (·.1)).Nodup/\ar.oK y.L=true then
  vV E (y.T.map fun x=>z x.1)<|
  match y.L with
  | []=>.fail
  |v::_=>.ret ⟨match d with|some _=>v.toM z|none=>.dead,[],y.T.map (yb z)⟩
 else .fail
def HE (E:Env) (f:FuncId) (d:Option Nat) (xs:List ar):bh:=
 xH (ar.te xs) [] fun B=>xI (ar.km xs++DZ B) [] fun T=>
  xE B T xs (fun m a acc=>if acc.rt.isEmpty=true/\acc.az.isEmpty=true/\m.arg.boxes.isEmpty=true then .get (m.run a) fun r=>P0 E d (m.ret.mk' r)else .fail) (E.fn f)
def D3 (E:Env) (f:FuncId) (d:Option Nat) (xs:List ar):bh:=
 xH (ar.te xs) [] fun B=>xI (ar.km xs++DZ B) [] fun T=>
  xE B T xs (fun m a acc=>.get (m.run a) fun r=>Kg E d B T acc (m.ret.mk' r)) (E.fn f)
def nH (o:Nat):List (Nat×Nat×Nat)->Option (Nat×Nat)
 | []=>none
 |h::aS=>bif Nat.beq h.2.1 o then some (h.1,h.2.2)else nH o aS
def vO (i o size:Nat):List (Nat×Nat×Nat)->(List (Nat×Nat×Nat)->bh)->bh
 | [],f=>f []
 |h::aS,f=>bif Nat.ble o h.2.1&&Nat.blt h.2.1 (o+size)then gE (h.1=i) (vO i o size aS f)else vO i o size aS fun l=>f (h::l)
def xA :List (Nat×Nat×Nat)->Nat->bh->bh
 | [],_,f=>f
 |h::aS,i,f=>bif Nat.beq h.2.2 gone then gE (h.1<=i) (xA aS i f)else xA aS i f
def yB (aS:List (Nat×Nat×Nat)) (i:Nat):Nat->Nat->(List ar->bh)->bh
 |_,0,f=>f []
 |o,m+1,f=>match nH o aS with
  |some (eI,y)=>gE (eI=i) (if y=gone then .fail else .tok y fun z=>match z with
   |some (.live _)=>yB aS i (o+1) m fun cs=>f (.aw y::cs)
   |_=>.fail)
  |none=>.fail
def BX (E:Env) (dst:Option Nat) (ty:bw) (n i o:Nat) (aa:Tok) (aS:List (Nat×Nat×Nat)):bh:=
 if ty.agg then yB aS i o ty.size fun cs=>.val (.agg cs)else xA aS i<| .get (aa.xs[i]?) fun y=>match(cellsOf aa.t y)[o]? with
  |some (.ag (.av r) x)=>match nH o aS with
   |some (eI,A)=>gE (eI=i) (if A=gone then .fail else .tok A fun z=>match z with
    |some (.live _)=>.val (.aw A)
    |_=>.fail)
   |none=>match dst,ty.elem with
    |some d,some (e,_,_)=>.tok d fun z=>match z with
     |none=>if E.res d then .fail else .ret ⟨.aw d,[],[(n,some (.live {aa with tr:=some ((i,o,d)::aS)})),(d,some (.live ⟨r,x,e,true,true,bif r.cj then none else some []⟩))]⟩
     |some _=>.fail
    |_,_=>.fail
  |some (.ag t x)=>if t.cj=true then(match nH o aS with
   |none=>.val (.ag t x)
   |some _=>.fail)else .fail
  |_=>.fail
def tw :List ar->(List ar->List (Nat×Option bb)->bh)->bh
 | [],f=>f [] []
 |c::l,f=>match c with
  | .aw t=>.tok t fun z=>match z with
   |some (.live aa)=>if aa.whole=true/\aa.wr=true/\aa.deep=true/\(aa.tr=none->aa.t.cj=true)then tw l fun cs es=>if es.any fun y=>y.1==t then .fail else f (.ag (.av aa.t) aa.xs::cs) ((t,some .eg)::es)else .fail
   |_=>.fail
  | .ag t x=>if t.cj=true then tw l fun cs es=>f (.ag t x::cs) es else .fail
  | .aQ=>tw l fun cs es=>f (.aQ::cs) es
  |_=>.fail
def C7 (n i o size:Nat) (ys:List ar) (aa:Tok) (aS:List (Nat×Nat×Nat)):bh:=
 if o+size<=aa.t.w/\aa.t.w<=gone/\(aS.all fun h=>Nat.blt h.2.1 aa.t.w)=true then tw ys fun cs es=>if es.any fun y=>y.1==n then .fail else vO i o size aS fun z=>.get (aa.xs[i]?) fun cq=>match hE aa.t ((cellsOf aa.t cq).take o++cs++(cellsOf aa.t cq).drop (o+size))with
  |some A=>.ret ⟨.bM [],[],es++ [(n,some (.live {aa with xs:=aa.xs.set i A,tr:=some z}))]⟩
  |none=>.fail
 else .fail
def hZ :aH->Nat->Option aH
 | .unit,_=>none
 | .pair a b,o=>bif Nat.blt o a.w then hZ a o else hZ b (o-a.w)
 | .q,o=>match o with
  |0=>some (.int .i64)
  |1=>some .str
  |2=>some (.av .str)
  |3=>some (.int .i64)
  |4=>some (.int .i64)
  |5=>some (.av .q)
  |_=>none
 |t,o=>match o with
  |0=>some t
  |_=>none
def setCell :(t:aH)->t.D->Nat->(r:aH)->List r.D->t.D
 | .pair a b,x,o,r,ys=>bif Nat.blt o a.w then(setCell a x.1 o r ys,x.2)else(x.1,setCell b x.2 (o-a.w) r ys)
 | .q,x,o,r,ys=>match o,r,ys with
  |2,.str,ys=>.mk x.kind x.field ys x.lo x.hi x.kids
  |5,.q,ys=>.mk x.kind x.field x.words x.lo x.hi ys
  |_,_,_=>x
 | .av iA,x,_,r,ys=>if h:r=iA then h▸ys else x
 |_,x,_,_,_=>x
def uT (T:List (Nat×Option bb)) (n:Nat):List (Nat×Option bb):=match aF T n with
 |some (.live aa)=>match aa.tr with
  |some ((i,o,d)::aS)=>match aF T d with
   |some (.live gJ)=>if gJ.whole=true/\gJ.wr=true/\gJ.deep=true/\(gJ.tr=none->gJ.t.cj=true)/\d≠n/\hZ aa.t o=some (.av gJ.t)/\d≠gone then jo (jo T d (some .eg)) n (some (.live {aa with xs:=aa.xs.modify i fun y=>setCell aa.t y o gJ.t gJ.xs,tr:=some aS}))else T
   |_=>T
  |_=>T
 |_=>T
def Iv :Nat->List Nat->List (Nat×Option bb)->List (Nat×Option bb)
 |0,_,T=>T
 |k+1,y,T=>Iv k y (y.foldl uT T)
def Mq :Nat×Option bb->Bool
 |(_,some (.live aa))=> !aa.whole
 |_=>false
def Cn (T:List (Nat×Option bb)):List (Nat×Option bb):=bif T.any Mq then Iv 8 (T.map (·.1)) T else T
def HD (r:aH) (x:ar):bh:=match x with
 | .aw n=>.tok n fun z=>match z with
  |some (.live aa)=>if aa.t=r then .val (.ag (.int .i64) (aa.xs.length:Int))else .fail
  |_=>.fail
 |x=>vh r x fun xs=>.val (.ag (.int .i64) (xs.length:Int))
def zeroDeep :List ar->Bool
 | []=>true
 | .ag t _::l=>t.cj&&zeroDeep l
 | .aQ::l=>zeroDeep l
 |_=>false
def xq (E:Env) (dst:Option Nat):Bool:=match dst with
 |some d=>E.dw d
 |none=>false
def Hu (E:Env) (dst:Option Nat) (lo:Option Operand) (wr:Bool):Option Nat:=match dst,lo with
 |some d,none=>if E.wr d&&wr then some d else none
 |_,_=>none
def DC :(t:aH)->Option t.D
 | .bool=>some false
 | .int _=>some (0:Int)
 | .str=>some ([]:List UInt8)
 |_=>none
def eJ (eb dD:aH) (es:List (eb.D×dD.D)) (k:eb.D):Option dD.D:=(es.find? fun e=>eb.hO k e.1).map (·.2)
def kL :List (Nat×s5)->Nat->Option s5
 | [],_=>none
 |(k,x)::l,j=>bif Nat.beq k j then some x else kL l j
def V0 :Operand->Option Nat
 | .global g=>some g
 |_=>none
def zj (ty:bw) (g:Nat):bh:=match kL nK g with
 |some (.row t y)=>if ty.agg then(if 0+ty.size<=(cellsOf t y).length then .val (.agg (((cellsOf t y).drop 0).take ty.size))else .fail)else match(cellsOf t y)[0]? with
  |some c=>.val c
  |none=>.fail
 |some (.map _ _ _ _)=>if ty.agg then .fail else .val (.iJ g)
 |_=>.fail
def Lp :ar->Option Nat
 | .iJ g=>some g
 |_=>none
def DB :(t:aH)->Option t.D
 | .pair a b=>match DB a,DB b with
  |some x,some y=>some (x,y)
  |_,_=>none
 |t=>DC t
def IQ (agg:Bool) (t:aH) (y:t.D):ar:=bif agg then .agg (cellsOf t y)else .ag t y
def EV (E:Env) (T:TypeId) (g:Nat) (i:ar) (ok:Bool):bh:=match E.ty T with
 |some ty=>match ty.zk with
  |some (_,_,eb,dD,agg)=>match kL nK g with
   |some (.map A G y es)=>if h:A=eb/\G=dD/\y=agg then .get (i.as eb) fun k=>.get (DB dD) fun z=>bif ok then .val (.bM [IQ agg dD ((eJ eb dD (show(aH.av (.pair eb dD)).D from h.1▸h.2.1▸es) k).getD z),.ag .bool (eJ eb dD (show(aH.av (.pair eb dD)).D from h.1▸h.2.1▸es) k).isSome])else .val (IQ agg dD ((eJ eb dD (show(aH.av (.pair eb dD)).D from h.1▸h.2.1▸es) k).getD z))else .fail
   |_=>.fail
  |none=>.fail
 |none=>.fail
def Tok.ia (aa:Tok):Tok:={aa with deep:=false,tr:=none}
def Dj (c:ar):bh:=match c with
 | .aw n=>.tok n fun z=>match z with
  |some (.live aa)=>if aa.tr=some []then .ret ⟨.aw n,[],[(n,some (.live aa.ia))]⟩else .fail
  |_=>.fail
 |_=>.fail
def yF (E:Env) (d t k:Nat) (aa:Tok) (src:ar):bh:=match src with
 | .sub n lo hi=>if n==t then gE (k<=lo) (mR E d aa.t (aa.xs.take k++(aa.xs.take hi).drop lo) aa.e aa.deep [(t,some .eg)])else .fail
 |_=>.fail
def Kk (E:Env) (T:TypeId) (x:ar):bh:=match x with
 | .sub n l h=>.tok n fun z=>match z with
  |some (.live aa)=>match E.ty T with
   |some ty=>match ty.elem with
    |some (e,r,_)=>match E.ty e with
     |some y=>if aa.t=r/\aa.tr=none/\aa.wr=true/\aa.t.cj=true/\y.zero.length=r.w then(match hE aa.t y.zero with
      |some z=>.ret ⟨.bM [],[],[(n,some (.live {aa with xs:=aa.xs.take l++List.replicate (h-l) z++aa.xs.drop h}))]⟩
      |none=>.fail)else .fail
     |none=>.fail
    |none=>.fail
   |none=>.fail
  |_=>.fail
 |_=>.fail
def cF (E:Env) (op:Op) (dst:Option Nat) (ρ:Operand->ar):bh:=
 match op with
 | .move x=>.val (ρ x)
 | .assign x=>.val (ρ x)
 | .pick c a b=>match ρ c with
  | .ag .bool t=>.q7 t (.val (ρ a)) (.val (ρ b))
  |_=>.fail
 | .alloc T=>match dst,E.ty T with
  |some d,some ty=>.box d fun b=>match b with
   |none=>if E.res d||gq d then .fail else .ret ⟨.box d 0,[(d,⟨false,ty.zero⟩)],[]⟩
   |some _=>.fail
  |_,_=>.fail
 | .box T x=>match dst,E.ty T,(ρ x).cells? with
  |some d,some ty,some cs=>.box d fun b=>match b with
   |none=>if cs.length=ty.size/\E.res d=false/\gq d=false then .ret ⟨.box d 0,[(d,⟨false,cs⟩)],[]⟩else .fail
   |some _=>.fail
  |_,_,_=>.fail
 | .build T parts=>match E.ty T with
  |some ty=>match ty.iR,vT ty.iR ty.zero (parts.toList.map fun q=>(q.1,ρ q.2))with
   |_::_,some cs=>.val (.agg cs)
   |_,_=>.fail
  |none=>.fail
 | .buildSlice T len parts=>match dst,E.ty T with
  |some d,some ty=>match ty.elem with
   |some (e,r,_)=>match qC r.w 0 (parts.toList.map fun q=>(q.1,ρ q.2))with
    |some cs=>match qx r len cs with
     |some xs=>if len=parts.toList.length/\len*r.w<=16777216 then(if E.dw d=true/\r.cj=false/\zeroDeep cs=true then uF E d r xs e []else p6 cs fun es deep=>mR E d r xs e deep es)else .fail
     |none=>.fail
    |none=>.fail
   |none=>.fail
  |_,_=>.fail
 | .load T x=>match E.ty T with
  |none=>.fail
  |some ty=>match V0 x with
   |some g=>zj ty g
   |none=>match ρ x with
   | .box k o=>if gq k then .fail else .box k fun b=>match b with
    |none=>.fail
    |some b=>if ty.agg then(if o+ty.size<=b.cs.length then .val (.agg ((b.cs.drop o).take ty.size))else .fail)else match b.cs[o]? with
     |some c=>if xq E dst=true then Dj c else .val c
     |none=>.fail
   | .ptr t y o=>if ty.agg then(if o+ty.size<=(cellsOf t y).length then .val (.agg (((cellsOf t y).drop o).take ty.size))else .fail)else match(cellsOf t y)[o]? with
    |some c=>.val c
    |none=>.fail
   | .fr n i o=>.tok n fun z=>match z with
    |some (.live aa)=>(match aa.tr with
     |none=>.get (aa.xs[i]?) fun y=>if ty.agg then(if o+ty.size<=(cellsOf aa.t y).length then .val (.agg (((cellsOf aa.t y).drop o).take ty.size))else .fail)else match(cellsOf aa.t y)[o]? with
      |some c=>.val c
      |none=>.fail
     |some aS=>BX E dst ty n i o aa aS)
    |_=>.fail
   |_=>.fail
 | .store T x y=>match E.ty T,(ρ y).cells?,dst with
  |some ty,some ys,none=>if ys.length=ty.size then match ρ x with
   | .box k o=>if gq k then .fail else .box k fun b=>match b with
    |some ⟨false,cs⟩=>if o+ty.size<=cs.length then .ret ⟨.bM [],[(k,⟨false,cs.take o++ys++cs.drop (o+ty.size)⟩)],[]⟩else .fail
    |_=>.fail
   | .fr n i o=>.tok n fun z=>match z with
    |some (.live aa)=>(match aa.tr with
     |none=>if aa.wr=true/\(aa.t.cj=true\/aa.deep=false)/\o+ty.size<=aa.t.w then .get (aa.xs[i]?) fun cq=>match hE aa.t ((cellsOf aa.t cq).take o++ys++(cellsOf aa.t cq).drop (o+ty.size))with
      |some K=>.ret ⟨.bM [],[],[(n,some (.live {aa with xs:=aa.xs.set i K}))]⟩
      |none=>.fail
      else .fail
     |some aS=>C7 n i o ty.size ys aa aS)
    |_=>.fail
   |_=>.fail
   else .fail
  |_,_,_=>.fail
 | .makeSlice T l c=>match dst,E.ty T with
  |some d,some ty=>match ty.elem with
   |some (e,r,A)=>match E.ty e with
    |some G=>match hE r G.zero with
     |some z=>if G.zero.length=r.w/\zeroDeep G.zero=true then qR (ρ l) fun n=>qR (ρ c) fun m=>gE (n=m/\0<=n/\n*A<=140737488355328/\n<=140737488355328) (.tok d fun x=>match x with
       |some _=>.fail
       |none=>if E.res d then .fail else if E.wr d then .ret ⟨.aw d,[],[(d,some (.live ⟨r,List.replicate n.toNat z,e,true,true,bif r.cj then none else some []⟩))]⟩else .ret ⟨.own d r (List.replicate n.toNat z),[],[(d,some (.live ⟨r,List.replicate n.toNat z,e,false,true,none⟩))]⟩)
      else .fail
     |none=>.fail
    |none=>.fail
   |none=>.fail
  |_,_=>.fail
 | .nilCheck x=>match ρ x with
  | .box k o=>if gq k then .fail else .val (.box k o)
  | .ptr t r o=>.val (.ptr t r o)
  | .fr n i o=>.tok n fun z=>match z with
   |some (.live _)=>.val (.fr n i o)
   |_=>.fail
  | .ag (.opt t) y=>.get y fun r=>.val (.ptr t r 0)
  |_=>.fail
 | .binOp op T x y _=>match DO (ρ x) (ρ y)with
  |some (xs,ys)=>DN ((E.ty T).bind (·.eqs)) op xs ys
  |none=>DX (match E.ty T with|some ty=>ty.bool|none=>false) (match E.ty T with|some ty=>ty.ptr|none=>false) op (ρ x) (ρ y)
 | .unOp op _ x=>Tc op (ρ x)
 | .fieldAddr T x f=>match E.ty T with
  |some ty=>match ty.iR[f]? with
   |some (off,size)=>if 0<size then match ρ x with
    | .box k o=>if gq k then .fail else .val (.box k (o+off))
    | .ptr t y o=>.val (.ptr t y (o+off))
    | .fr n i o=>.tok n fun z=>match z with
     |some (.live _)=>.val (.fr n i (o+off))
     |_=>.fail
    |_=>.fail
    else .fail
   |none=>.fail
  |none=>.fail
 | .field T x f=>match E.ty T with
  |some ty=>match ty.vW[f]? with
   |some (c8,off)=>match E.ty c8 with
    |some I=>match ρ x with
     | .agg cs=>if I.agg then(if off+I.size<=cs.length then .val (.agg ((cs.drop off).take I.size))else .fail)else match cs[off]? with
      |some c=>.val c
      |none=>.fail
     |_=>.fail
    |none=>.fail
   |none=>.fail
  |none=>.fail
 | .indexAddr T x i=>match E.ty T with
  |some ty=>match ty.elem with
   |some (_,r,_)=>qR (ρ i) fun n=>match ρ x with
    | .aw t=>.tok t fun z=>match z with
     |some (.live aa)=>gE (0<=n/\n<aa.xs.length) (if aa.t=r then .val (.fr t n.toNat 0)else .fail)
     |_=>.fail
    |x=>vh r x fun xs=>.get (idx xs n) fun y=>.val (.ptr r y 0)
   |none=>.fail
  |none=>.fail
 | .index T x i=>match E.ty T with
  |some ty=>qR (ρ i) fun n=>match ρ x with
   | .ag .str s=>if ty.str then .get (idx s n) fun b=>.val (.ag (.int .u8) b.toNat)else .fail
   |_=>.fail
  |none=>.fail
 | .extract x i=>match ρ x with
  | .bM cs=>match cs[i]? with
   |some c=>.val c
   |none=>.fail
  |_=>.fail
 | .slice T x lo hi none=>match E.ty T with
  |some ty=>match ρ x with
   | .ag .str s=>if ty.str then se 0 (lo.map ρ) fun l=>se s.length (hi.map ρ) fun h=>.get (cut s l h) fun y=>.val (.ag .str y)else .fail
   |x=>match ty.elem with
    |some (_,r,_)=>match x with
     | .aw n=>.tok n fun z=>match z with
      |some (.live aa)=>if aa.t=r/\aa.tr=none then se 0 (lo.map ρ) fun l=>se aa.xs.length (hi.map ρ) fun h=>.get (cut aa.xs l h) fun y=>match Hu E dst lo aa.wr with
        |some d=>mR E d aa.t y aa.e aa.deep [(n,some .eg)]
        |none=>bif xq E dst then .val (.sub n l.toNat h.toNat)else .ret ⟨.ag (.av aa.t) y,[],[(n,some (.live aa.jf))]⟩
       else .fail
      |_=>.fail
     |x=>match x.as (.av r)with
      |some xs=>se 0 (lo.map ρ) fun l=>se (List.length (α:=r.D) xs) (hi.map ρ) fun h=>.get (cut (α:=r.D) xs l h) fun y=>.val (.ag (.av r) y)
      |none=>.fail
    |none=>.fail
  |none=>.fail
 | .convert S T x=>match E.ty S,E.ty T with
  |some J,some ty=>match ρ x with
   | .ag (.int _) n=>match ty.int with
    |some k=>.val (.ag (.int k) (k.wrap n))
    |none=>.fail
   | .ag .str b=>if ty.str then .val (.ag .str b)else .fail
   |x=>match J.elem with
    |some (e,.int .u8,_)=>match(E.ty e).bind (·.int)with
     |some .u8=>if ty.str then vh (.int .u8) x fun xs=>.val (.ag .str (bytesOf xs))else .fail
     |_=>.fail
    |_=>.fail
  |_,_=>.fail
 | .makeMap _ _=>.fail
 | .lookup T x i ok=>match Lp (ρ x)with
  |some g=>EV E T g (ρ i) ok
  |none=>.fail
 | .mapUpdate _ _ _ _=>.fail
 | .makeFunc (.func f) first captured=>match first.toList with
  | []=>if(captured.toList.map ρ).all ar.leaf then .val (.aU f (captured.toList.map ρ))else .fail
  |_=>.fail
 | .call c=>match c.callee with
  | .value g=>match ρ g with
   | .aU f cs=>bif xq E dst then HE E f dst (c.args.toList.map ρ++cs)else D3 E f dst (c.args.toList.map ρ++cs)
   |_=>.fail
  | .builtin .len=>match c.args.toList,c.argTypes[0]? with
   | [x],some T=>match E.ty T with
    |some ty=>match ρ x with
     | .ag .str s=>if ty.str then .val (.ag (.int .i64) (s.length:Int))else .fail
     |x=>match ty.elem with
      |some (_,r,_)=>HD r x
      |none=>.fail
    |none=>.fail
   |_,_=>.fail
  | .builtin .clear=>match c.args.toList,c.argTypes[0]? with
   | [x],some T=>Kk E T (ρ x)
   |_,_=>.fail
  | .builtin .min=>match c.args.toList with
   | [x,y]=>match ρ x with
    | .ag (.int k) a=>match ρ y with
     | .ag (.int _) b=>.val (.ag (.int k) (if b<a then b else a))
     |_=>.fail
    |_=>.fail
   | [x,y,z]=>match ρ x with
    | .ag (.int k) a=>match ρ y with
     | .ag (.int _) b=>match ρ z with
      | .ag (.int _) d=>.val (.ag (.int k) (if d<(if b<a then b else a)then d else(if b<a then b else a)))
      |_=>.fail
     |_=>.fail
    |_=>.fail
   |_=>.fail
  | .builtin .max=>match c.args.toList with
   | [x,y]=>match ρ x with
    | .ag (.int k) a=>match ρ y with
     | .ag (.int _) b=>.val (.ag (.int k) (if b>a then b else a))
     |_=>.fail
    |_=>.fail
   |_=>.fail
  | .builtin .append=>match dst,c.args.toList,c.argTypes.toList with
   |some d,[x,y],[T,M]=>if T=M then match E.ty T with
    |some ty=>match ty.elem with
     |some (e,r,A)=>match ρ x with
      | .own t iA xs=>.tok t fun z=>match z with
       |some (.live aa)=>if h:iA=r then(if aa.e=e then vB E d e r A aa.deep [(t,some .eg)] false (h▸xs) (ρ y)else .fail)else .fail
       |_=>.fail
      | .aw t=>.tok t fun z=>match z with
       |some (.live aa)=>if h:aa.t=r/\aa.tr=none then(if aa.e=e then vB E d e r A aa.deep [(t,some .eg)] aa.wr (h.1▸aa.xs) (ρ y)else .fail)else if h:aa.t=r/\aa.tr=some []then(if aa.e=e then yG E d e r A t (h.1▸aa.xs) (ρ y)else .fail)else .fail
       |_=>.fail
      | .aQ=>vB E d e r A true [] (E.wr d) [] (ρ y)
      | .sub t lo k=>.tok t fun z=>match z with
       |some (.live aa)=>if aa.t=r/\aa.tr=none/\aa.wr=true/\aa.t.cj=true/\E.wr d=true/\lo=0 then yF E d t k aa (ρ y)else .fail
       |_=>.fail
      |_=>.fail
     |none=>.fail
    |none=>.fail
    else .fail
   |_,_,_=>.fail
  |_=>.fail
 |_=>.fail
def nb :bO:=⟨.bM [],[],[]⟩
def rn :c6:=⟨[],[],[],[]⟩
def pr {ρ:Type} (E:Env) (all:Array Oper):List Oper->aX->List c6->(aX->List c6->Option ρ)->Option ρ
 | [],s,acc,K=>K s acc.reverse
 |o::l,s,acc,K=>
  let go (s:aX):Option ρ:=(cF E o.op o.dst s.aP).run s [] [] fun e y=>pr E all l (s.app o.dst e) (y::acc) K
  let pass (s:aX):Option ρ:=pr E all l (s.app o.dst nb) (rn::acc) K
  match o.guard with
  |none=>go s
  |some (j,want)=>match(all[j]?).bind (·.dst)with
   |none=>pass s
   |some t=>match dT s.L t with
    | .ag .bool b=>(match b with
     |true=>(let s:={s with L:=jV s.L t (.ag .bool true)};match want with|true=>go s|false=>pass s)
     |false=>(let s:={s with L:=jV s.L t (.ag .bool false)};match want with|true=>pass s|false=>go s))
    | .bM []=>pass s
    |_=>none
inductive yq where
 |out (slot:Nat) (path:List (Nat×Nat×Nat×Nat))
 |ia (k c:Nat)
 |QF (k c:Nat)
 |outs (slot qm:Nat) (l:List (Nat×Nat×Nat))
 |JR (slot qm:Nat)
inductive Hint where
 |no
 |ya (gs:List yq)
 |seq (a b:Hint)
 |meet (s:ay) (a b:Hint)
 |cond (a b:Hint)
 |block (a:Hint)
 |loop (s:ay) (a:Hint)
def iter {y ρ:Type} (F:(y->Option ρ)->y->Option ρ):Nat->y->Option ρ
 |0,_=>none
 |n+1,x=>F (iter F n) x
def meet {y ρ:Type} (J:y->Option ρ) (X:(y->Option ρ)->Option ρ):Option ρ:=X J
def Hint.ami :Hint->Option ay×Hint×Hint
 | .seq a b=>(none,a,b)
 | .meet s a b=>(some s,a,b)
 |_=>(none,.no,.no)
def Hint.conds :Hint->Hint×Hint
 | .cond a b=>(a,b)
 |_=>(.no,.no)
def Hint.T9 :Hint->Hint
 | .block a=>a
 |_=>.no
def IP (E:Env) (a:Acc):Bool:=a.az.all (fun x=> !E.res x.1||x.1==x.2)&&a.rt.all (fun x=>match x.2 with
 |some n=> !E.res x.1||x.1==n
 |none=> !E.res x.1)
def ay.vb (E:Env) (s:ay) (st:aX):Option (fZ s.fm):=match s.conv st.B st.T st.L with
 |some (y,a)=>if IP E a then some y else none
 |none=>none
def aX.n9 (st:aX):aX:={st with T:=Cn st.T}
def ay.to (E:Env) (s:ay) (st:aX):Option (fZ s.fm):=s.vb E st.n9
def I7 (s:aX) (c:Operand) (b:Bool):aX:=match c with
 | .tmp t=>{s with L:=jV s.L t (.ag .bool b)}
 |_=>s
def Ae :ar->Option Nat
 | .fr _ i _=>some i
 | .ag (.int _) k=>some (Int.toNat k)
 |_=>none
def xB {ρ:Type}:List (Nat×Nat×Nat)->Nat->Option ρ->Option ρ
 | [],_,K=>K
 |h::aS,i,K=>bif Nat.beq h.2.2 gone then(if h.1<=i then xB aS i K else none)else xB aS i K
def yC {ρ:Type}:List (Nat×Nat×Nat)->Nat->Option ρ->Option ρ
 | [],_,K=>K
 |h::aS,i,K=>if h.1=i then yC aS i K else none
def uO {ρ:Type} (E:Env):List (Nat×Nat×Nat×Nat)->Nat->Nat->aX->(aX->Option ρ)->Option ρ
 | [],_,_,s,K=>K s
 |(o,d,e,qm)::p,n,i,s,K=>match aF s.T n with
  |some (.live aa)=>match aa.tr with
   |some aS=>match nH o aS with
    |some (eI,z)=>if eI=i then(match p with
     | []=>K s
     |_::_=>match Ae (dT s.L qm)with
      |some j=>uO E p z j s K
      |none=>none)else none
    |none=>xB aS i<|Option.bind (aa.xs[i]?) fun y=>match(cellsOf aa.t y)[o]? with
     |some (.ag (.av r) x)=>match aF s.T d with
      |none=>match E.res d with
       |true=>none
       |false=>(match p with
       | []=>K {s with T:=jo (jo s.T n (some (.live {aa with tr:=some ((i,o,d)::aS)}))) d (some (.live ⟨r,x,e,true,true,bif r.cj then none else some []⟩))}
       |_::_=>match Ae (dT s.L qm)with
        |some j=>uO E p d j {s with T:=jo (jo s.T n (some (.live {aa with tr:=some ((i,o,d)::aS)}))) d (some (.live ⟨r,x,e,true,true,bif r.cj then none else some []⟩))} K
        |none=>none)
      |some _=>none
     |_=>none
   |none=>none
  |_=>none
def Cf {ρ:Type} (E:Env):List (Nat×Nat×Nat)->Nat->Nat->aX->(aX->Option ρ)->Option ρ
 | [],_,_,s,K=>K s
 |(o,d,e)::l,n,i,s,K=>uO E [(o,d,e,0)] n i s fun s=>Cf E l n i s K
def H0 :ar->Option Nat
 | .aw n=>some n
 |_=>none
def u1 (s:aX) (n:Nat) (aa:Tok) (aS:List (Nat×Nat×Nat)):aX:={s with T:=jo s.T n (some (.live {aa with tr:=some aS}))}
def lb {ρ:Type} (E:Env):List yq->aX->(aX->Option ρ)->Option ρ
 | [],s,K=>K s
 | .out av p::gs,s,K=>match dT s.L av with
  | .fr n i _=>uO E p n i s fun s=>lb E gs s K
  |_=>none
 | .ia k c::gs,s,K=>match aY s.B k with
  |some b=>match b.cs[c]? with
   |some (.aw n)=>match aF s.T n with
    |some (.live aa)=>match aa.tr with
     |some []=>lb E gs {s with T:=jo s.T n (some (.live aa.ia))} K
     |some (_::_)=>none
     |none=>lb E gs s K
    |_=>none
   |_=>none
  |none=>none
 | .QF k c::gs,s,K=>match aY s.B k with
  |some b=>match(b.cs[c]?).bind H0 with
   |some n=>match aF s.T n with
    |some (.live aa)=>match aa.tr with
     |some []=>lb E gs (u1 s n aa [(0,gone,gone)]) K
     |_=>none
    |_=>none
   |none=>none
  |none=>none
 | .outs av qm l::gs,s,K=>match H0 (dT s.L av)with
  |some n=>match Ae (dT s.L qm)with
   |some i=>Cf E l n i s fun s=>lb E gs s K
   |none=>none
  |none=>none
 | .JR av qm::gs,s,K=>match H0 (dT s.L av)with
  |some n=>match Ae (dT s.L qm)with
   |some i=>match aF s.T n with
    |some (.live aa)=>match aa.tr with
     |some aS=>yC aS i (lb E gs (u1 s n aa [(i+1,gone,gone)]) K)
     |none=>none
    |_=>none
   |none=>none
  |none=>none
def W5 {ρ:Type _} (x:ρ):ρ:=x
def W6 {ρ:Type _} (x:ρ):ρ:=W5 x
def W7 {ρ:Type _} (x:ρ):ρ:=W6 x
def W8 {ρ:Type _} (x:ρ):ρ:=W7 x
def W9 {ρ:Type _} (x:ρ):ρ:=W8 x
def Xa {ρ:Type _} (x:ρ):ρ:=W9 x
def tv {α ρ:Type _}:List α->(List α->ρ)->ρ
 | [],K=>K (Xa [])
 |x::l,K=>tv l fun y=>K (x::y)
def aX.tidy {ρ:Type _} (s:aX) (K:aX->ρ):ρ:=tv s.L fun L=>tv s.B fun B=>tv s.T fun T=>K ⟨L,B,T⟩
def Hint.Lo :Hint->List yq
 | .ya gs=>gs
 |_=>[]
noncomputable def aoN {ρ:Type} (d:Option Nat) (x:ar) (s:aX) (K:aX->Option ρ):Option ρ:=match x with
 | .box k 0=>if hR k=2 then(match aY s.B k with
  |some ⟨false,[.box m q,.ag (.int .i64) n,.ag (.int .i64) b,.ag (.int .i64) _]⟩=>(match aY s.B m with
   |some ⟨false,[.ag (.av (.pair eb dD)) es]⟩=>if(List.length (α:=eb.D×dD.D) es:Int)=n then
     bif(PY (List.length (α:=eb.D×dD.D) es) (Int.toNat b)).isEmpty then K (s.app d ⟨.bM [.ag .bool false],[],[]⟩)
     else TY (PY (List.length (α:=eb.D×dD.D) es) (Int.toNat b)) fun i=>K (s.app d ⟨.bM [.ag .bool true,.dead,.dead],[(k,⟨false,[.box m q,.ag (.int .i64) n,.ag (.int .i64) ((Int.toNat b|||2^i:Nat):Int),.ag (.int .i64) ((i+1:Nat):Int)]⟩)],[]⟩)
    else none
   |_=>none)
  |_=>none)else none
 |_=>none
def jm {ρ:Type} (N:Nat) (E:Env) (ok:List Oper->List c6->Bool):Code->Hint->aX->(Exit->aX->Option ρ)->Option ρ
 | .skip,_,s,K=>K .normal s
 | .region _ ops draw,h,s,K=>lb E h.Lo s fun s=>pr E ops ops.toList s [] fun z A=>match draw with
  |true=>(match ok ops.toList A with
   |true=>z.tidy (K .normal)
   |false=>none)
  |false=>z.tidy (K .normal)
 | .seq x y,h,s,K=>match h.ami with
  |(none,bd,hy)=>jm N E ok x bd s fun e z=>match e with
   | .normal=>jm N E ok y hy z K
   |e=>K e z
  |(some sh,bd,hy)=>
   meet (fun g:fZ sh.fm=>jm N E ok y hy (sh.mk' g) K) fun J=>jm N E ok x bd s fun e z=>match e with
    | .normal=>(match sh.to E z with
     |some g=>J g
     |none=>none)
    |e=>K e z
 | .cond c x y,h,s,K=>match s.aP c with
  | .ag .bool b=>(match b with
   |true=>jm N E ok x h.conds.1 (I7 s c true) K
   |false=>jm N E ok y h.conds.2 (I7 s c false) K)
  |_=>none
 | .block id b,h,s,K=>jm N E ok b h.T9 s fun e z=>match e with
  | .exit j=>(match Nat.beq j id with
   |true=>K .normal z
   |false=>K (.exit j) z)
  |e=>K e z
 | .exit id,_,s,K=>K (.exit id) s
 | .ret,_,s,K=>K .ret s
 | .label _,_,s,K=>K .normal s
 | .loop b,h,s,K=>match h with
  | .loop sh au=>(match sh.to E s with
   |some g0=>iter (fun go g=>jm N E ok b au (sh.mk' g) fun e z=>match e with
    | .normal=>(match sh.to E z with
     |some g=>go g
     |none=>none)
    |e=>K e z) N g0
   |none=>none)
  |_=>none
 |_,_,_,_=>none
def ar.one? :ar->Option ar
 | .bM _=>none
 |x=>some x
def xK (E:Env) (s:aX):ResultVar->Option ar
 | .tmp t=>(dT s.L t).one?
 | .cell a T=>match dT s.L a,E.ty T with
  | .box k o,some ty=>if gq k then none else match aY s.B k with
   |some b=>if ty.agg then(if o+ty.size<=b.cs.length then some (.agg ((b.cs.drop o).take ty.size))else none)else b.cs[o]?
   |none=>none
  |_,_=>none
def pq (E:Env) (s:aX):List ResultVar->Option (List ar)
 | []=>some []
 |r::l=>match xK E s r,pq E s l with
  |some x,some xs=>some (x::xs)
  |_,_=>none
def qL (E:Env) (s:aX) (rs:List ResultVar):Option ar:=
 match pq E s rs with
 |some [x]=>some x
 |some xs=>some (.bM xs)
 |none=>none
def extras :List b8->List (Nat×Option bb)->List ar
 | [],_=>[]
 | .aw n _ _ _::l,T=>(if r7 (aF T n)then .aw n else .dead)::extras l T
 | .kn n _ _::l,T=>(if r7 (aF T n)then .aw n else .dead)::extras l T
 |_::l,T=>.dead::extras l T
def IW (N:Nat) (E:Env) (ok:List Oper->List c6->Bool) (fn:Func) (c:Code) (h:Hint) (arg ret:ay) (a:fZ arg.fm):Option (fZ ret.fm):=
 let s:=arg.mk' a
 jm N E ok c h ⟨s.L++List.replicate (fn.ntmps-s.L.length) (.bM []),s.B,s.T⟩ fun e y=>match e with
  | .normal| .ret=>match qL E y fn.results.toList with
   |some v=>ret.vb E ⟨v::extras ret.vals.tail y.n9.T,y.B,y.n9.T⟩
   |none=>none
  |_=>none
abbrev bW :=Nat->Nat->Prop
inductive bq (w:World) (S:bW):Value->b3->Prop where
 |bool (b:Bool):bq w S (.bool b) (.bool b)
 |int (k:IntKind) (n:Int):bq w S (.int k n) (.int k n)
 |str (s:ByteArray):bq w S (.string s) (.str s)
 |nil:bq w S (.pointer none) (.opt none)
 |ptr (row:List b3) (u:Nat->Value) (b o:Nat)
   (aS:∀(j:Nat) (c:b3),row[j]? =some c->S b (o+j))
   (hu:∀(j:Nat) (c:b3),row[j]? =some c->w.cell? ⟨b,o+j,none⟩=some (u j))
   (cE:∀(j:Nat) (c:b3),row[j]? =some c->bq w S (u j) c):bq w S (.pointer (some ⟨b,o,none⟩)) (.opt (some row))
 |av (a:Option Addr) (cap:Nat) (rows:List (List b3)) (u:Nat->Nat->Value) (b o m:Nat) (bB:rows.length<=cap) (dU:rows≠ []->a=some ⟨b,o,none⟩)
   (hm:∀(i:Nat) (row:List b3),rows[i]? =some row->row.length=m)
   (aS:∀(i j:Nat) (row:List b3) (c:b3),rows[i]? =some row->row[j]? =some c->S b (o+i*m+j))
   (hu:∀(i j:Nat) (row:List b3) (c:b3),rows[i]? =some row->row[j]? =some c->w.cell? ⟨b,o+i*m+j,none⟩=some (u i j))
   (cE:∀(i j:Nat) (row:List b3) (c:b3),rows[i]? =some row->row[j]? =some c->bq w S (u i j) c):bq w S (.slice a rows.length cap) (.av rows)
theorem bq.mono {w w':World} {S S':bW} (G:∀b o,S b o->S' b o) (hw:∀b o,S b o->w'.cell? ⟨b,o,none⟩=w.cell? ⟨b,o,none⟩) {v:Value} {p:b3} (h:bq w S v p):bq w' S' v p:=by
 induction h with
 |bool b=>exact .bool b
 |int k n=>exact .int k n
 |str s=>exact .str s
 |nil=>exact .nil
 |ptr row u b o aS hu cE A=>exact .ptr row u b o (fun j c h=>G _ _ (aS j c h)) (fun j c h=>(hw _ _ (aS j c h)).trans (hu j c h)) A
 |av a cap rows u b o m bB dU hm aS hu cE A=>
  exact .av a cap rows u b o m bB dU hm (fun i j row c y z=>G _ _ (aS i j row c y z)) (fun i j row c y z=>(hw _ _ (aS i j row c y z)).trans (hu i j row c y z)) A
theorem bq.one {w:World} {S:bW} {v:Value} {p:b3} (h:bq w S v p):v.oneCell'=true:=by cases h<;>rfl
def j1 (w:World) (S:bW) (b o:Nat) (row:List b3):Prop:=∀(j:Nat) (c:b3),row[j]? =some c->S b (o+j)/\∃u,w.cell? ⟨b,o+j,none⟩=some u/\bq w S u c
theorem j1.mono {w w':World} {S S':bW} (y:∀b o,S b o->S' b o) (hw:∀b o,S b o->w'.cell? ⟨b,o,none⟩=w.cell? ⟨b,o,none⟩) {b o:Nat} {row:List b3} (h:j1 w S b o row):j1 w' S' b o row:=by
 intro j c A
 obtain⟨z,u,G,I⟩:=h j c A
 exact⟨y _ _ z,u,(hw _ _ z).trans G,I.mono y hw⟩
theorem bq.QG {w:World} {S:bW} {v:Value} {row:List b3} (h:bq w S v (.opt (some row))):∃b o,v= .pointer (some ⟨b,o,none⟩)/\j1 w S b o row:=by
 cases h with
 |ptr row u b o aS hu cE=>exact⟨b,o,rfl,fun j c y=>⟨aS j c y,u j,hu j c y,cE j c y⟩⟩
theorem bq.ak4 {w:World} {S:bW} {b o:Nat} {row:List b3} (h:j1 w S b o row):bq w S (.pointer (some ⟨b,o,none⟩)) (.opt (some row)):=by
 refine .ptr row (fun j=>(w.cell? ⟨b,o+j,none⟩).getD undef) b o (fun j c y=>(h j c y).1) (fun j c y=>?_) (fun j c y=>?_)
 .obtain ⟨_,u,z,_⟩:=h j c y;simp[z]
 .obtain ⟨_,u,z,A⟩:=h j c y;simpa[z]using A
theorem bq.opened {w:World} {S:bW} {v:Value} {rows:List (List b3)} (h:bq w S v (.av rows)):
  ∃a cap b o m,v= .slice a rows.length cap/\rows.length<=cap/\(rows≠ []->a=some ⟨b,o,none⟩)/\(∀(i:Nat) (row:List b3),rows[i]? =some row->row.length=m)/\∀(i:Nat) (row:List b3),rows[i]? =some row->j1 w S b (o+i*m) row:=by
 cases h with
 |av a cap rows u b o m bB dU hm aS hu cE=>
  exact⟨a,cap,b,o,m,rfl,bB,dU,hm,fun i row hi j c y=>⟨aS i j row c hi y,u i j,hu i j row c hi y,cE i j row c hi y⟩⟩
theorem bq.mk {w:World} {S:bW} {a:Option Addr} {cap b o m:Nat} {rows:List (List b3)} (bB:rows.length<=cap) (dU:rows≠ []->a=some ⟨b,o,none⟩)
  (hm:∀(i:Nat) (row:List b3),rows[i]? =some row->row.length=m) (cE:∀(i:Nat) (row:List b3),rows[i]? =some row->j1 w S b (o+i*m) row):bq w S (.slice a rows.length cap) (.av rows):=by
 refine .av a cap rows (fun i j=>(w.cell? ⟨b,o+i*m+j,none⟩).getD undef) b o m bB dU hm (fun i j row c hi y=>(cE i row hi j c y).1) (fun i j row c hi y=>?_) (fun i j row c hi y=>?_)
 .obtain ⟨_,u,z,_⟩:=cE i row hi j c y
  simp[z]
 .obtain ⟨_,u,z,A⟩:=cE i row hi j c y
  simpa[z]using A
theorem Cy {w:World} {S:bW}:bq w S (.slice none 0 0) (.av []):=bq.mk (b:=0) (o:=0) (m:=0) (bC _) (fun h=>absurd rfl h) (fun i row h=>by simp at h) (fun i row h=>by simp at h)
inductive Deep (w:World):(Nat->Prop)->Value->ar->Prop where
 |lit (F:Nat->Prop) (v:Value) (t:aH) (x:t.D) (p:b3) (he:enc t x=[p]) (bK:p.isLit=true) (cO:v=fq p):Deep w F v (.ag t x)
 |nil (F:Nat->Prop) (r:aH):Deep w F (.slice none 0 0) (.ag (.av r) ([]:List r.D))
 |av (F:Nat->Prop) (cap:Nat) (r:aH) (xs:List r.D) (u:Nat->Nat->Value) (b:Nat) (q:Nat->Nat->Nat->Prop) (bQ:Array Value) (T:TypeId) (au:F b) (cr:w.heap[b]? =some (.cells bQ T (0,0))) (bI:bQ.size=cap*r.w) (bB:xs.length<=cap) (bd:cap<=maxLen)
   (hu:∀(i j:Nat) (x:r.D) (c:ar),xs[i]? =some x->(cellsOf r x)[j]? =some c->bQ[i*r.w+j]? =some (u i j))
   (dr:∀i j k,q i j k->F k/\k≠b) (bc:∀i j eI cZ k,q i j k->q eI cZ k->i=eI/\j=cZ)
   (cE:∀(i j:Nat) (x:r.D) (c:ar),xs[i]? =some x->(cellsOf r x)[j]? =some c->Deep w (q i j) (u i j) c):Deep w F (.slice (some ⟨b,0,none⟩) xs.length cap) (.ag (.av r) xs)
theorem Deep.same {w w':World} {F:Nat->Prop} {v:Value} {p:ar} (h:Deep w F v p) (hw:∀k,F k->w'.heap[k]? =w.heap[k]?):Deep w' F v p:=by
 induction h with
 |lit F v t x p he bK cO=>exact .lit F v t x p he bK cO
 |nil F r=>exact .nil F r
 |av F cap r xs u b q bQ T au cr bI bB bd hu dr bc cE y=>
  exact .av F cap r xs u b q bQ T au ((hw b au).trans cr) bI bB bd hu dr bc (fun i j x c z A=>y i j x c z A (fun k G=>hw k (dr i j k G).1))
theorem Deep.mono {w:World} {F G:Nat->Prop} {v:Value} {p:ar} (h:Deep w F v p) (y:∀k,F k->G k):Deep w G v p:=by
 cases h with
 |lit _ _ t x p he bK cO=>exact .lit G v t x p he bK cO
 |nil _ r=>exact .nil G r
 |av _ cap r xs u b q bQ T au cr bI bB bd hu dr bc cE=>exact .av G cap r xs u b q bQ T (y _ au) cr bI bB bd hu (fun i j k z=>⟨y _ (dr i j k z).1,(dr i j k z).2⟩) bc cE
structure Ctx where
 w:World
 S:bW
 live:Nat->Prop
 β:Nat->Nat
 tok:Nat->Option bb
 τ:Nat->Value
def qJ (k b o:Nat):Value:=bif Nat.beq (hR k) 1 then .map (some b)else .pointer (some ⟨b,o,none⟩)
theorem IM {k b o:Nat} (h:gq k=false):qJ k b o= .pointer (some ⟨b,o,none⟩):=by unfold qJ;rw[r5.1 h];rfl
theorem alM (k b o:Nat):(qJ k b o).oneCell'=true:=by unfold qJ;cases Nat.beq (hR k) 1<;>rfl
def gw (c:Ctx):ar->Value->Prop
 | .dead,_=>True
 | .ag t x,v=>∃p,enc t x=[p]/\bq c.w c.S v p
 | .aQ,v=>v= .slice none 0 0
 | .eK,v=>v= .pointer none
 | .box k o,v=>c.live k/\v=qJ k (c.β k) o
 | .ptr t x o,v=>∃b s,v= .pointer (some ⟨b,s+o,none⟩)/\j1 c.w c.S b s (enc t x)
 | .own n t xs,v=>bq c.w c.S v (.av (xs.map (enc t)))/\c.tok n≠none/\∀aa,c.tok n=some (.live aa)->aa.wr=false/\v=c.τ n/\(⟨aa.t,aa.xs⟩:(t:aH)×List t.D)=⟨t,xs⟩
 | .aw n,v=>v.oneCell'=true/\c.tok n≠none/\∀aa,c.tok n=some (.live aa)->v=c.τ n
 | .fr n i o,v=>v.oneCell'=true/\c.tok n≠none/\∀aa,c.tok n=some (.live aa)->∃b l cap,c.τ n= .slice (some ⟨b,0,none⟩) l cap/\i<l/\v= .pointer (some ⟨b,i*aa.t.w+o,none⟩)
 | .iJ g,v=>c.S g 0/\c.w.cell? ⟨g,0,none⟩=some v/\v.oneCell'=true
 | .agg _,_=>False
 | .bM _,_=>False
 | .aU _ _,_=>False
 | .sub n l h,v=>v.oneCell'=true/\c.tok n≠none/\∀aa,c.tok n=some (.live aa)->∃y len cap,c.τ n= .slice y len cap/\l<=h/\h<=len/\len<=cap/\v= .slice (if cap=l then y else y.map (·.add (l*aa.t.w))) (h-l) (cap-l)
def bs {α β:Type} (P:α->β->Prop):List α->List β->Prop
 | [],[]=>True
 |a::xs,b::ys=>P a b/\bs P xs ys
 |_,_=>False
def e9 (c:Ctx):ar->Value->Prop
 | .aU f cs,v=>∃us:List Value,v= .func (.func f) #[] us.toArray/\bs (gw c) cs us
 |x,v=>gw c x v
def ee (c:Ctx) (x:ar) (v:Value):Prop:=e9 c x v/\v.oneCell'=true
def ga (c:Ctx):ar->Value->Prop
 | .agg cs,v=>∃bQ,v= .agg (List.toArray bQ)/\bs (ee c) cs bQ
 |x,v=>e9 c x v
def bo (c:Ctx):ar->Value->Prop
 | .bM cs,v=>∃bQ,v= .tuple (List.toArray bQ)/\bs (ga c) cs bQ
 |x,v=>ga c x v
theorem bs.len {α β:Type} {P:α->β->Prop}:∀ {xs:List α} {ys:List β},bs P xs ys->xs.length=ys.length
 | [],[],_=>rfl
 |_::xs,_::ys,h=>by simp[bs.len h.2]
 | [],_::_,h=>h.elim
 |_::_,[],h=>h.elim
theorem bs.imp {α β:Type} {P Q:α->β->Prop} (y:∀a b,P a b->Q a b):∀ {xs:List α} {ys:List β},bs P xs ys->bs Q xs ys
 | [],[],_=>True.intro
 |_::xs,_::ys,h=>⟨y _ _ h.1,bs.imp y h.2⟩
 | [],_::_,h=>h.elim
 |_::_,[],h=>h.elim
theorem bs.get {α β:Type} {P:α->β->Prop}:∀ {xs:List α} {ys:List β},bs P xs ys->∀(i:Nat) (a:α),xs[i]? =some a->∃b,ys[i]? =some b/\P a b
 | [],[],_,i,a,dU=>by simp at dU
 |x::xs,y::ys,h,0,a,dU=>by simp at dU;subst dU;exact⟨y,rfl,h.1⟩
 |x::xs,y::ys,h,i+1,a,dU=>by simpa using bs.get h.2 i a (by simpa using dU)
 | [],_::_,h,_,_,_=>h.elim
 |_::_,[],h,_,_,_=>h.elim
theorem bs.uJ {α β:Type} {P:α->β->Prop}:∀ {xs:List α} {ys:List β},xs.length=ys.length->(∀(i:Nat) (a:α) (b:β),xs[i]? =some a->ys[i]? =some b->P a b)->bs P xs ys
 | [],[],_,_=>True.intro
 |x::xs,y::ys,bK,h=>⟨h 0 x y rfl rfl,bs.uJ (by simpa using bK) (fun i a b dU au=>h (i+1) a b (by simpa using dU) (by simpa using au))⟩
 | [],_::_,bK,_=>by simp at bK
 |_::_,[],bK,_=>by simp at bK
theorem bs.get' {α β:Type} {P:α->β->Prop} {xs:List α} {ys:List β} (h:bs P xs ys) (i:Nat) (a:α) (b:β) (dU:xs[i]? =some a) (au:ys[i]? =some b):P a b:=by
 obtain⟨bt,y,z⟩:=h.get i a dU
 rw[au]at y;cases y;exact z
theorem bs.append {α β:Type} {P:α->β->Prop}:∀ {xs:List α} {ys:List β} {y:List α} {z:List β},bs P xs ys->bs P y z->bs P (xs++y) (ys++z)
 | [],[],_,_,_,h=>h
 |_::xs,_::ys,_,_,h,A=>⟨h.1,bs.append h.2 A⟩
 | [],_::_,_,_,h,_=>h.elim
 |_::_,[],_,_,h,_=>h.elim
theorem bs.take {α β:Type} {P:α->β->Prop} {xs:List α} {ys:List β} (h:bs P xs ys) (n:Nat):bs P (xs.take n) (ys.take n):=
 bs.uJ (by simp[h.len]) (fun i a b dU au=>by
  rw[ho]at dU au
  split at dU
  .rw [ai ‹_›]at au;exact h.get' i a b dU au
  .cases dU)
theorem bs.drop {α β:Type} {P:α->β->Prop} {xs:List α} {ys:List β} (h:bs P xs ys) (n:Nat):bs P (xs.drop n) (ys.drop n):=
 bs.uJ (by simp[h.len]) (fun i a b dU au=>by
  rw[hT]at dU au
  exact h.get' _ a b dU au)
structure Ctx.nt (c c':Ctx):Prop where
 S:∀b o,c.S b o->c'.S b o
 w:∀b o,c.S b o->c'.w.cell? ⟨b,o,none⟩=c.w.cell? ⟨b,o,none⟩
def ha (c c':Ctx):Prop:=∀t,c.tok t≠none->c'.tok t≠none/\∀bY,c'.tok t=some (.live bY)->∃aa,c.tok t=some (.live aa)/\c'.τ t=c.τ t/\bY.t=aa.t/\(aa.wr=false->bY.wr=false/\(⟨bY.t,bY.xs⟩:(t:aH)×List t.D)=⟨aa.t,aa.xs⟩)
def fY (c c':Ctx):Prop:=∀k,c.live k->c'.live k/\c'.β k=c.β k
theorem ha.refl {c c':Ctx} (ax:c'.tok=c.tok) (y:c'.τ=c.τ):ha c c':=fun t h=>⟨by rw[ax];exact h,fun aa z=>⟨aa,by rw[<-ax];exact z,by rw[y],rfl,fun h=>⟨h,rfl⟩⟩⟩
theorem fY.refl {c c':Ctx} (bK:c'.live=c.live) (y:c'.β=c.β):fY c c':=fun k h=>⟨by rw[bK];exact h,by rw[y]⟩
section
variable {c c' : Ctx} (h : c.nt c') (au : fY c c') (ax : ha c c')
include h au ax
theorem gw.mono {x:ar} {v:Value} (bd:gw c x v):gw c' x v:=by
 cases x with
 |dead=>exact True.intro
 |ag t y=>obtain⟨p,e,cE⟩:=bd;exact⟨p,e,cE.mono h.S h.w⟩
 |aQ=>exact bd
 |eK=>exact bd
 |box k o=>obtain⟨A,G⟩:=bd;exact⟨(au k A).1,by rw[(au k A).2];exact G⟩
 |ptr t y o=>obtain⟨b,s,e,bB⟩:=bd;exact⟨b,s,e,bB.mono h.S h.w⟩
 |own n t xs=>
  obtain⟨I,J⟩:=ax n bd.2.1
  refine⟨bq.mono h.S h.w bd.1,I,fun bY z=>?_⟩
  obtain⟨aa,A,G,K,M⟩:=J bY z
  obtain⟨O,Q,U⟩:=bd.2.2 aa A
  exact⟨(M O).1,by rw[G];exact Q,(M O).2.trans U⟩
 |aw n=>
  obtain⟨I,J⟩:=ax n bd.2.1
  refine⟨bd.1,I,fun bY z=>?_⟩
  obtain⟨aa,A,G,_⟩:=J bY z
  rw[G];exact bd.2.2 aa A
 |fr n i o=>
  obtain⟨I,J⟩:=ax n bd.2.1
  refine⟨bd.1,I,fun bY z=>?_⟩
  obtain⟨aa,A,G,K,_⟩:=J bY z
  rw[G,K];exact bd.2.2 aa A
 |sub n l k=>
  obtain⟨I,J⟩:=ax n bd.2.1
  refine⟨bd.1,I,fun bY z=>?_⟩
  obtain⟨aa,A,G,K,_⟩:=J bY z
  rw[G,K];exact bd.2.2 aa A
 |iJ g=>exact⟨h.S _ _ bd.1,(h.w _ _ bd.1).trans bd.2.1,bd.2.2⟩
 |agg cs=>exact bd.elim
 |bM cs=>exact bd.elim
 |aU f cs=>exact bd.elim
theorem e9.mono {x:ar} {v:Value} (bd:e9 c x v):e9 c' x v:=by
 cases x with
 |aU f cs=>obtain⟨us,e,dU⟩:=bd;exact⟨us,e,dU.imp fun a b y=>gw.mono h au ax y⟩
 |_=>simp only[e9]at bd⊢;exact gw.mono h au ax bd
theorem ga.mono {x:ar} {v:Value} (bd:ga c x v):ga c' x v:=by
 cases x with
 |agg cs=>obtain⟨bQ,e,dU⟩:=bd;exact⟨bQ,e,dU.imp (fun a b y=>⟨e9.mono h au ax y.1,y.2⟩)⟩
 |_=>simp only[ga]at bd⊢;exact e9.mono h au ax bd
theorem bo.mono {x:ar} {v:Value} (bd:bo c x v):bo c' x v:=by
 cases x with
 |bM cs=>obtain⟨bQ,e,dU⟩:=bd;exact⟨bQ,e,dU.imp (fun a b y=>ga.mono h au ax y)⟩
 |_=>simp only[bo]at bd⊢;exact ga.mono h au ax bd
end
theorem jy {c:Ctx} {x:ar} {v:Value} (h:gw c x v):e9 c x v:=by cases x<;>first|exact h|exact h.elim
theorem kz {c:Ctx} {x:ar} {v:Value} (h:e9 c x v):ga c x v:=by cases x<;>first|exact h|exact h.elim
theorem jz {c:Ctx} {x:ar} {v:Value} (h:ga c x v):bo c x v:=by cases x<;>first|exact h|exact h.elim
theorem gQ {c:Ctx} {x:ar} {v:Value} (h:e9 c x v):bo c x v:=jz (kz h)
theorem Vq (x:bf):(y5 x).length=6:=by cases x;rfl
theorem en :∀(t:aH) (x:t.D),(enc t x).length=t.w
 | .bool,_=>rfl
 | .int _,_=>rfl
 | .str,_=>rfl
 | .unit,_=>rfl
 | .pair a b,x=>by simp[enc,aH.w,en a,en b]
 | .av _,_=>rfl
 | .opt _,_=>rfl
 | .q,x=>Vq x
theorem Eu (xs:List bf):y6 xs=xs.map y5:=by
 induction xs with
 |nil=>rfl
 |cons x xs y=>simp[y6,y]
theorem k7 :∀(t:aH) (x:t.D),bs (fun(c:ar) (p:b3)=>∃t x,c= .ag t x/\enc t x=[p]) (cellsOf t x) (enc t x)
 | .bool,x=>⟨⟨_,_,rfl,rfl⟩,True.intro⟩
 | .int _,x=>⟨⟨_,_,rfl,rfl⟩,True.intro⟩
 | .str,x=>⟨⟨_,_,rfl,rfl⟩,True.intro⟩
 | .unit,_=>True.intro
 | .pair a b,x=>(k7 a x.1).append (k7 b x.2)
 | .av _,x=>⟨⟨_,_,rfl,rfl⟩,True.intro⟩
 | .opt _,x=>⟨⟨_,_,rfl,rfl⟩,True.intro⟩
 | .q,.mk k f ws a b kids=>⟨⟨_,_,rfl,rfl⟩,⟨_,_,rfl,rfl⟩,⟨_,_,rfl,by simp[enc,bf.words]⟩,⟨_,_,rfl,rfl⟩,⟨_,_,rfl,rfl⟩,⟨.av .q,kids,rfl,by simp only[enc,Eu]⟩,True.intro⟩
theorem k8 (t:aH) (x:t.D):(cellsOf t x).length=t.w:=by rw[(k7 t x).len,en]
theorem bq.pc {w:World} {S:bW} {p:b3} (h:p.isLit=true):bq w S (fq p) p:=by
 cases p with
 |bool b=>exact .bool b
 |int k n=>exact .int k n
 |str s=>exact .str s
 |av rows=>cases h
 |opt row=>cases h
theorem Deep.rep {w:World} {S:bW} {F:Nat->Prop} {v:Value} {c:ar} (h:Deep w F v c):(∀b o,F b->S b o)->∃(t:aH) (x:t.D) (p:b3),c= .ag t x/\enc t x=[p]/\bq w S v p:=by
 induction h with
 |lit F v t x p he bK cO=>exact fun _=>⟨t,x,p,rfl,he,cO▸bq.pc bK⟩
 |nil F r=>exact fun _=>⟨.av r,[],.av [],rfl,rfl,Cy⟩
 |av F cap r xs u b q bQ T au cr bI bB bd hu dr bc cE J=>
  intro A
  refine⟨.av r,xs,.av (xs.map (enc r)),rfl,rfl,?_⟩
  rw[show xs.length=(xs.map (enc r)).length from by simp]
  refine bq.mk (b:=b) (o:=0) (m:=r.w) (by simpa using bB) (fun _=>rfl) (fun i row hi=>?_) (fun i row hi j c G=>?_)
  .rw [ie]at hi
   obtain⟨x,_,rfl⟩:=hJ.1 hi
   exact en r x
  .rw [ie]at hi
   obtain⟨x,bd,rfl⟩:=hJ.1 hi
   have y:=k7 r x
   obtain⟨c',z⟩:∃c',(cellsOf r x)[j]? =some c':=by
    have:j<(cellsOf r x).length:=by rw[y.len];exact(dx.1 G).1
    exact⟨_,bH this⟩
   obtain⟨dc,fW,rfl,he⟩:=y.get' j c' c z G
   obtain⟨t2,Q,U,K,I,M⟩:=J i j x _ bd z (fun b o O=>A b o (dr i j b O).1)
   cases K
   rw[he]at I
   cases I
   refine⟨A _ _ au,u i j,?_,M⟩
   rw[gK,cell_of_row w b _ bQ T (0,0) cr]
   exact hu i j x _ bd z
theorem hr.on {p q:fD} {a b c:World} (h:hr p a b) (k:hr q b c) (dr:∀i,q i->i<a.heap.size->p i):hr p a c:=
 ⟨k.os.trans h.os,k.tape.trans h.tape,k.output.trans h.output,dK h.size k.size,fun i hi y=>(k.block i (kZ hi h.size) (fun z=>y (dr i z hi))).trans (h.block i hi y)⟩
structure ed where
 W:World
 X:Nat->Prop
 s9:bW
 ny:Nat->Option Nat
 gi:Nat->Option Value
def ed.dm (R:ed) (b:Nat):Prop:=R.W.heap.size<=b\/R.X b
def jx (aS:List (Nat×Nat×Nat)) (i j:Nat):Prop:=(∀d,(i,j,d)∉aS)/\∀k,(k,gone,gone)∈aS->k<=i
theorem jx.nil (i j:Nat):jx [] i j:=⟨fun d=>by simp,fun k h=>by cases h⟩
theorem jx.of {aS y:List (Nat×Nat×Nat)} {i j:Nat} (h:jx y i j) (z:∀x,x∈aS->x∈y):jx aS i j:=⟨fun d bc=>h.1 d (z _ bc),fun k A=>h.2 k (z _ A)⟩
def Tree (w:World) (F:Nat->Prop) (v:Value) (r:aH) (xs:List r.D) (aS:List (Nat×Nat×Nat)):Prop:=
 v= .slice none 0 0\/ ∃(b cap:Nat) (q:Nat->Nat->Nat->Prop),v= .slice (some ⟨b,0,none⟩) xs.length cap/\(∀i j k,q i j k->F k/\k≠b)/\(∀i j eI cZ k,q i j k->q eI cZ k->i=eI/\j=cZ)/\
  ∀(i j:Nat) (x:r.D) (c:ar),xs[i]? =some x->(cellsOf r x)[j]? =some c->∃u,w.cell? ⟨b,i*r.w+j,none⟩=some u/\u.oneCell'=true/\(jx aS i j->Deep w (q i j) u c)
def hq (w:World) (S:bW) (aa:Tok) (v:Value) (F:Nat->Prop):Prop:=match aa.tr with
 |none=>aa.deep=true->Deep w F v (.ag (.av aa.t) aa.xs)
 |some aS=>aa.wr=true/\aa.deep=true/\(∀b,F b->∀o,¬S b o)/\Tree w F v aa.t aa.xs aS
def cg (Fr:Nat->Prop) (w:World) (S:bW) (aa:Tok) (v:Value) (F:Nat->Prop):Prop:=
 (∀b,F b->Fr b/\b<w.heap.size)/\
 ((v= .slice none 0 0/\aa.xs=[])\/ ∃b cap bQ T,v= .slice (some ⟨b,0,none⟩) aa.xs.length cap/\F b/\w.heap[b]? =some (.cells bQ T (0,0))/\bQ.size=cap*aa.t.w/\aa.xs.length<=cap/\cap<=maxLen/\
  (aa.wr=false->∀o,S b o->o<aa.xs.length*aa.t.w)/\(aa.wr=true->∀o,¬S b o)/\
  ∀(i j:Nat) (x:aa.t.D) (p:b3),aa.xs[i]? =some x->(enc aa.t x)[j]? =some p->∃u,bQ[i*aa.t.w+j]? =some u/\(aa.tr=none->bq w S u p)/\(aa.wr=false->S b (i*aa.t.w+j)))/\
 hq w S aa v F
def ix (t:aH) (x:t.D):Value:=match enc t x with
 | [p]=>fq p
 |_=>undef
def DI (w:World) (b:Nat) (cs:List ar):Prop:=
 ∃(eb dD:aH) (es:List (eb.D×dD.D)) (fg:Array MapEntry) (y:Nat),(cs=[.ag (.av (.pair eb dD)) es]\/cs=[.dead])/\w.heap[b]? =some (.map fg y)/\fg.toList.map (fun e=>(e.key,e.val))=es.map (fun x=>(ix eb x.1,ix dD x.2))/\y=fg.size/\fg.toList.map (·.born)=List.range fg.size
def Ty (w:World) (b:Nat) (bQ:List Value):Prop:=
 ∃(y n m:Nat) (seen:Array Nat),bQ=[.map (some y),.int .i64 (n:Int),.int .i64 (m:Int),.int .i64 ((seen.toList.getLast?.map (· +1)).getD 0:Nat)]/\w.heap[b]? =some (.mapIter (some y) n seen n)/\∀i,m.testBit i=true↔i∈seen.toList
def j0 (c:Ctx) (k b:Nat) (cs:List ar):Prop:=
 (gq k=false/\∃bQ T,c.w.heap[b]? =some (.cells (List.toArray bQ) T (0,0))/\bs (ee c) cs bQ)\/(hR k=1/\DI c.w b cs)\/(hR k=2/\∃bQ,Ty c.w b bQ/\bs (ee c) cs bQ)
theorem j0.imp {c c':Ctx} {k b:Nat} {cs:List ar} (h:j0 c k b cs) (G:c'.w.heap[b]? =c.w.heap[b]?) (cO:∀x v,ee c x v->ee c' x v):j0 c' k b cs:=by
 rcases h with⟨y,bQ,T,z,A⟩|⟨y,eb,dD,es,fg,I,z,A,J⟩|⟨y,bQ,⟨K,n,m,seen,z,A,J⟩,M⟩
 .exact .inl ⟨y,bQ,T,G.trans z,A.imp cO⟩
 .exact .inr (.inl ⟨y,eb,dD,es,fg,I,z,G.trans A,J⟩)
 .exact .inr (.inr ⟨y,bQ,⟨K,n,m,seen,z,G.trans A,J⟩,M.imp cO⟩)
theorem j0.lt {c:Ctx} {k b:Nat} {cs:List ar} (h:j0 c k b cs):b<c.w.heap.size:=by
 rcases h with⟨_,bQ,T,z,_⟩|⟨_,eb,dD,es,fg,A,_,y,_⟩|⟨_,bQ,⟨G,n,m,seen,_,y,_⟩,_⟩
 .exact qv z
 .exact qv y
 .exact qv y
theorem j0.cells {c:Ctx} {k b:Nat} {cs:List ar} (h:j0 c k b cs) (y:gq k=false):∃bQ T,c.w.heap[b]? =some (.cells (List.toArray bQ) T (0,0))/\bs (ee c) cs bQ:=by
 rcases h with⟨_,h⟩|⟨h,_⟩|⟨h,_⟩
 .exact h
 .rw [r5.1 y]at h;cases h
 .rw [r5.1 y]at h;cases h
structure Mem (R:ed) (box:Nat->Option cf) (tok:Nat->Option bb) (β:Nat->Nat) (τ:Nat->Value) (F:Nat->Nat->Prop) (S:bW) (w:World):Prop where
 ew:hr R.X R.W w
 cq:∀b o,R.s9 b o->S b o
 new:∀b o,S b o->R.s9 b o\/R.dm b
 iP:∀b o,R.s9 b o->w.cell? ⟨b,o,none⟩=R.W.cell? ⟨b,o,none⟩
 lt:∀b o,S b o->b<w.heap.size
 boxes:∀k b,box k=some b->R.dm (β k)/\(b.cn=false->∀o,¬S (β k) o)/\(b.cn=true->∀o,o<b.cs.length->S (β k) o)/\j0 ⟨w,S,fun k=>box k≠none,β,tok,τ⟩ k (β k) b.cs
 jB:∀k aJ b bt,box k=some b->box aJ=some bt->β k=β aJ->k=aJ
 bG:∀t aa,tok t=some (.live aa)->cg R.dm w S aa (τ t) (F t)
 eF:∀t dc aa bY b,tok t=some (.live aa)->tok dc=some (.live bY)->F t b->F dc b->t=dc
 fh:∀t aa k b,tok t=some (.live aa)->box k=some b->¬F t (β k)
 k6:∀k b,R.ny k=some b->box k≠none->β k=b
 kS:∀t v aa,R.gi t=some v->tok t=some (.live aa)->τ t=v
 fQ:∀n aa aS i o d,tok n=some (.live aa)->aa.tr=some aS->(i,o,d)∈aS->d≠gone->tok d≠none/\∀gJ,tok d=some (.live gJ)->∃b l cap,τ n= .slice (some ⟨b,0,none⟩) l cap/\w.cell? ⟨b,i*aa.t.w+o,none⟩=some (τ d)
theorem cg.block {Fr:Nat->Prop} {w:World} {S:bW} {aa:Tok} {v:Value} {F:Nat->Prop} (h:cg Fr w S aa v F) {b l cap:Nat} (e:v= .slice (some ⟨b,0,none⟩) l cap):F b:=by
 rcases h.2.1 with⟨y,_⟩|⟨bt,z,bQ,T,y,A,_⟩
 .rw [y]at e;cases e
 .rw [y]at e;cases e;exact A
def aX.ctx (s:aX) (w:World) (S:bW) (β:Nat->Nat) (τ:Nat->Value):Ctx:=⟨w,S,fun k=>aY s.B k≠none,β,aF s.T,τ⟩
def Rel (R:ed) (s:aX) (a:Act) (w:World):Prop:=
 ∃β τ F S,Mem R (aY s.B) (aF s.T) β τ F S w/\a.tmps.size=s.L.length/\a.defers=[]/\∀i,bo (s.ctx w S β τ) (dT s.L i) (a.tmps.getD i undef)
section
variable {R : ed} {w w' : World} {S S' : bW} {box : Nat -> Option cf} {tok : Nat -> Option bb} {β : Nat -> Nat} {τ : Nat -> Value} {F : Nat -> Nat -> Prop}
theorem Mem.size (h:Mem R box tok β τ F S w):R.W.heap.size<=w.heap.size:=h.ew.size
theorem Mem.blt (h:Mem R box tok β τ F S w) {k:Nat} {b:cf} (y:box k=some b):β k<w.heap.size:=by
 exact(h.boxes k b y).2.2.2.lt
structure Step (X:Nat->Prop) (S S':bW) (w w':World):Prop where
 ew:hr X w w'
 cell:∀b o,S b o->w'.cell? ⟨b,o,none⟩=w.cell? ⟨b,o,none⟩
 cq:∀b o,S b o->S' b o
 new:∀b o,S' b o->S b o\/w.heap.size<=b\/X b
 lt:∀b o,S' b o->b<w'.heap.size
theorem Step.H5 (au:Below w.heap.size w w') (bK:∀b o,S b o->b<w.heap.size) (y:∀b o,S b o->S' b o) (z:∀b o,S' b o->S b o\/w.heap.size<=b) (A:∀b o,S' b o->b<w'.heap.size):Step (fun _=>False) S S' w w':=
 ⟨hr.H5 au,fun b o h=>(q4 au).1 b o (bK b o h),y,fun b o h=>(z b o h).imp id .inl,A⟩
theorem Step.le {X:Nat->Prop} (h:Step X S S' w w') (live:Nat->Prop) (tok':Nat->Option bb) (y:Nat->Prop) (z:Nat->Nat) (A:Nat->Value):Ctx.nt ⟨w,S,live,β,tok,τ⟩ ⟨w',S',y,z,tok',A⟩:=⟨h.cq,h.cell⟩
theorem Tree.same {F:Nat->Prop} {v:Value} {r:aH} {xs:List r.D} {aS:List (Nat×Nat×Nat)} (h:Tree w F v r xs aS) (au:∀b l cap,v= .slice (some ⟨b,0,none⟩) l cap->w'.heap[b]? =w.heap[b]?) (hw:∀k,F k->w'.heap[k]? =w.heap[k]?):Tree w' F v r xs aS:=by
 rcases h with h|⟨b,cap,q,e,dr,bc,bB⟩
 .exact .inl h
 .exact .inr ⟨b,cap,q,e,dr,bc,fun i j x c bd y=>by
   obtain⟨u,z,A,G⟩:=bB i j x c bd y
   exact⟨u,(World.cell?_of_block (w:=w) (au b _ _ e)).trans z,A,fun I=>(G I).same fun k J=>hw k (dr i j k J).1⟩⟩
theorem cg.step {X:Nat->Prop} {Fr:Nat->Prop} {aa:Tok} {v:Value} {G:Nat->Prop} (h:cg Fr w S aa v G) (aS:Step X S S' w w') (M:∀k,G k->¬X k):cg Fr w' S' aa v G:=by
 have A:=fun {b l cap:Nat} (e:v= .slice (some ⟨b,0,none⟩) l cap)=>h.block e
 obtain⟨I,O,J⟩:=h
 have y:∀b,G b->∀o,S' b o->S b o:=fun b cr o z=>by
  rcases aS.new b o z with h|h|h
  .exact h
  .have:=(I b cr).2;omega
  .exact absurd h (M b cr)
 have same:∀k,G k->w'.heap[k]? =w.heap[k]? :=fun k V=>aS.ew.block k (I k V).2 (M k V)
 refine⟨fun b cr=>⟨(I b cr).1,kZ (I b cr).2 aS.ew.size⟩,?_,?_⟩
 .rcases O with O|⟨b,cap,bQ,T,e,K,cr,bI,Y,hm,Q,U,bB⟩
  .exact .inl O
  .exact .inr ⟨b,cap,bQ,T,e,K,(aS.ew.block b (I b K).2 (M b K)).trans cr,bI,Y,hm,fun hw o z=>Q hw o (y b K o z),fun hw o z=>U hw o (y b K o z),fun i j x p bd Z=>by
    obtain⟨u,dO,iu,hv⟩:=bB i j x p bd Z
    exact⟨u,dO,fun ax=>(iu ax).mono aS.cq aS.cell,fun hw=>aS.cq _ _ (hv hw)⟩⟩
 .unfold hq at J⊢
  split
  .rename_i ax;rw[ax]at J;exact fun bc=>(J bc).same same
  .rename_i l3 ax
   rw[ax]at J
   obtain⟨g1,g2,g3,g4⟩:=J
   exact⟨g1,g2,fun b au o z=>g3 b au o (y b au o z),g4.same (fun b l cap e=>same b (A e)) same⟩
theorem Mem.step {X:Nat->Prop} (h:Mem R box tok β τ F S w) (aS:Step X S S' w w') (G:∀k,X k->R.dm k) (I:∀k b,box k=some b->¬X (β k)) (J:∀t aa,tok t=some (.live aa)->∀k,F t k->¬X k):Mem R box tok β τ F S' w':=by
 refine⟨h.ew.on aS.ew fun k bd z=>?_,fun b o V=>aS.cq _ _ (h.cq b o V),fun b o A=>?_,fun b o V=>(aS.cell b o (h.cq b o V)).trans (h.iP b o V),aS.lt,fun k b z=>?_,h.jB,fun t aa ax=>(h.bG t aa ax).step aS (J t aa ax),h.eF,h.fh,h.k6,h.kS,fun n aa K i o d M O Q U=>⟨(h.fQ n aa K i o d M O Q U).1,fun gJ bc=>?_⟩⟩
 case refine_4=>
  obtain⟨b,l,cap,cy,cb⟩:=(h.fQ n aa K i o d M O Q U).2 gJ bc
  have cM:=(h.bG n aa M).block cy
  exact⟨b,l,cap,cy,(World.cell?_of_block (w:=w) (aS.ew.block b ((h.bG n aa M).1 b cM).2 (J n aa M b cM))).trans cb⟩
 .rcases G k bd with A|A
  .omega
  .exact A
 .rcases aS.new b o A with y|y|y
  .exact h.new b o y
  .exact .inr (.inl (dK h.size y))
  .exact .inr (G b y)
 .obtain ⟨A,y,Z,h2⟩:=h.boxes k b z
  refine⟨A,fun bI o cx=>?_,fun bI o cx=>aS.cq _ _ (Z bI o cx),h2.imp (aS.ew.block _ (h.blt z) (I k b z)) fun x v bd=>⟨bd.1.mono (aS.le _ _ _ _ _) (fY.refl rfl rfl) (ha.refl rfl rfl),bd.2⟩⟩
  rcases aS.new _ o cx with Y|Y|Y
  .exact y bI o Y
  .have:=h.blt z;omega
  .exact I k b z Y
theorem Mem.grow (h:Mem R box tok β τ F S w) (au:Below w.heap.size w w') (y:∀b o,S b o->S' b o) (z:∀b o,S' b o->S b o\/w.heap.size<=b) (A:∀b o,S' b o->b<w'.heap.size):Mem R box tok β τ F S' w':=
 h.step (Step.H5 au h.lt y z A) (fun _ h=>h.elim) (fun _ _ _ h=>h) (fun _ _ _ _ _ h=>h)
theorem Mem.drop (h:Mem R box tok β τ F S w) {tok':Nat->Option bb} (hu:∀t,tok t≠none->tok' t≠none) (aS:∀t aa,tok' t=some (.live aa)->tok t=some (.live aa)):Mem R box tok' β τ F S w:=by
 refine⟨h.ew,h.cq,h.new,h.iP,h.lt,fun k b O=>?_,h.jB,fun t aa ax=>h.bG t aa (aS t aa ax),fun t dc aa bY b y z=>h.eF t dc aa bY b (aS t aa y) (aS dc bY z),fun t aa k b y z=>h.fh t aa k b (aS t aa y) z,h.k6,fun t v aa y z=>h.kS t v aa y (aS t aa z),fun n aa A i o d M G I J=>⟨hu d (h.fQ n aa A i o d (aS n aa M) G I J).1,fun gJ bc=>(h.fQ n aa A i o d (aS n aa M) G I J).2 gJ (aS d gJ bc)⟩⟩
 obtain⟨y,z,K,Q⟩:=h.boxes k b O
 exact⟨y,z,K,Q.imp rfl fun x v bd=>⟨e9.mono (c:=⟨w,S,fun k=>box k≠none,β,tok,τ⟩) (c':=⟨w,S,fun k=>box k≠none,β,tok',τ⟩) ⟨fun _ _ h=>h,fun _ _ _=>rfl⟩ (fY.refl rfl rfl) (fun t ax=>⟨hu t ax,fun aa h=>⟨aa,aS t aa h,rfl,rfl,fun hw=>⟨hw,rfl⟩⟩⟩) bd.1,bd.2⟩⟩
end
def updB (f:Nat->Option cf) (k:Nat) (b:cf):Nat->Option cf:=fun j=>if j=k then some b else f j
def updT (f:Nat->Option bb) (t:Nat) (x:Option bb):Nat->Option bb:=fun j=>if j=t then x else f j
section
variable {R : ed} {w w' : World} {S S' : bW} {box : Nat -> Option cf} {tok : Nat -> Option bb} {β : Nat -> Nat} {τ : Nat -> Value} {F : Nat -> Nat -> Prop}
theorem Mem.akF (h:Mem R box tok β τ F S w) (d:Nat) (J:gq d=false) (bc:box d=none) (K:R.ny d=none) (k:Nat) (U:R.dm k) (T:TypeId) (bQ:List Value) (cO:w.heap[k]? =some (.cells bQ.toArray T (0,0))) (V:∀o,¬S k o) (G:∀j b,box j=some b->β j≠k) (M:∀t aa,tok t=some (.live aa)->¬F t k) (cs:List ar)
  (bB:bs (ee ⟨w,S,fun j=>updB box d ⟨false,cs⟩ j≠none,fun j=>if j=d then k else β j,tok,τ⟩) cs bQ):
  Mem R (updB box d ⟨false,cs⟩) tok (fun j=>if j=d then k else β j) τ F S w:=by
 have lift:∀x v,ee ⟨w,S,fun k=>box k≠none,β,tok,τ⟩ x v->ee ⟨w,S,fun j=>updB box d ⟨false,cs⟩ j≠none,fun j=>if j=d then k else β j,tok,τ⟩ x v:=fun x v bd=>
  ⟨e9.mono (c:=⟨w,S,fun k=>box k≠none,β,tok,τ⟩) (c':=⟨w,S,fun j=>updB box d ⟨false,cs⟩ j≠none,fun j=>if j=d then k else β j,tok,τ⟩) ⟨fun _ _ h=>h,fun _ _ _=>rfl⟩ (fun j y=>by
   have O:j≠d:=fun e=>y (e▸bc)
   simp only[updB,O,if_false];exact⟨y,trivial⟩) (ha.refl rfl rfl) bd.1,bd.2⟩
 refine⟨h.ew,h.cq,h.new,h.iP,h.lt,fun j b y=>?_,fun j cZ b bt y A e=>?_,h.bG,h.eF,fun t aa j b ax y=>?_,fun j b au y=>?_,h.kS,h.fQ⟩
 .by_cases e:j=d
  .subst e
   simp[updB]at y;subst y
   simp only[if_true]
   exact⟨U,fun _=>V,(fun h=>by cases h),.inl ⟨J,bQ,T,cO,bB⟩⟩
  .simp only [updB,e,if_false]at y
   obtain⟨Y,Z,Q,h2⟩:=h.boxes j b y
   simp only[e,if_false]
   exact⟨Y,Z,Q,h2.imp rfl lift⟩
 .by_cases z:j=d<;>by_cases I:cZ=d
  .rw [z,I]
  .simp only [updB,z,I,if_true,if_false]at A e
   exact absurd e.symm (G cZ bt A)
  .simp only [updB,z,I,if_true,if_false]at y e
   exact absurd e (G j b y)
  .simp only [updB,z,I,if_false]at y A e
   exact h.jB j cZ b bt y A e
 .by_cases z:j=d
  .simp only [z,if_true];exact M t aa ax
  .simp only [updB,z,if_false]at y⊢
   exact h.fh t aa j b ax y
 .by_cases z:j=d
  .subst z;rw[K]at au;cases au
  .simp only [updB,z,if_false]at y⊢
   exact h.k6 j b au y
theorem Mem.akL (h:Mem R box tok β τ F S w) (d:Nat) (z:gq d=false) (bc:box d=none) (A:R.ny d=none) (T:TypeId) (bQ:List Value) (cs:List ar) (bB:bs (ee ⟨w,S,fun k=>box k≠none,β,tok,τ⟩) cs bQ):
  Mem R (updB box d ⟨false,cs⟩) tok (fun k=>if k=d then w.heap.size else β k) τ F S (w.alloc (.cells bQ.toArray T)):=by
 have au:Below w.heap.size w (w.alloc (.cells bQ.toArray T)):=(Below.refl _ _).alloc (bC _) _
 have cr:=h.grow (S':=S) au (fun _ _ h=>h) (fun _ _ h=>.inl h) (fun b o J=>by have:=h.lt b o J;simp;omega)
 refine cr.akF d z bc A w.heap.size (.inl h.size) T bQ (heap_alloc_new w _) (fun o G=>by have:=h.lt _ _ G;omega) (fun j b y e=>by have:=h.blt y;omega) (fun t aa ax K=>by have:=((h.bG t aa ax).1 _ K).2;omega) cs
  (bB.imp fun x v bd=>⟨e9.mono (c:=⟨w,S,fun k=>box k≠none,β,tok,τ⟩) (c':=⟨w.alloc (.cells bQ.toArray T),S,fun j=>updB box d ⟨false,cs⟩ j≠none,fun j=>if j=d then w.heap.size else β j,tok,τ⟩) ⟨fun _ _ h=>h,fun b o G=>(q4 au).1 b o (h.lt b o G)⟩ (fun j y=>by
   have I:j≠d:=fun e=>y (e▸bc)
   simp only[updB,I,if_false];exact⟨y,trivial⟩) (ha.refl rfl rfl) bd.1,bd.2⟩)
theorem Mem.amj (h:Mem R box tok β τ F S w) (d:Nat) (O:gq d=false) (cs im:List ar) (bc:box d=some ⟨false,cs⟩) (z:List Value)
  (bB:bs (ee ⟨w,S,fun k=>box k≠none,β,tok,τ⟩) im z):
  Mem R (updB box d ⟨false,im⟩) tok β τ F S (w.setRow (β d) z.toArray)/\Ctx.nt ⟨w,S,fun k=>box k≠none,β,tok,τ⟩ ⟨w.setRow (β d) z.toArray,S,fun k=>updB box d ⟨false,im⟩ k≠none,β,tok,τ⟩:=by
 obtain⟨d1,d2,_,UW⟩:=h.boxes d _ bc
 obtain⟨bQ,T,d3,d4⟩:=UW.cells O
 have d2:=d2 rfl
 have y:∀k,k≠β d->(w.setRow (β d) z.toArray).heap[k]? =w.heap[k]? :=fun k A=>setRow_other w (β d) k _ A
 have G:(w.setRow (β d) z.toArray).heap.size=w.heap.size:=by simp[World.setRow]
 have I:∀b o,S b o->(w.setRow (β d) z.toArray).cell? ⟨b,o,none⟩=w.cell? ⟨b,o,none⟩:=fun b o au=>World.cell?_of_block (w:=w) (y b (fun e=>d2 o (by rw[<-e];exact au)))
 have hle:Ctx.nt ⟨w,S,fun k=>box k≠none,β,tok,τ⟩ ⟨w.setRow (β d) z.toArray,S,fun k=>updB box d ⟨false,im⟩ k≠none,β,tok,τ⟩:=⟨fun _ _ h=>h,I⟩
 have lift:∀x v,ee ⟨w,S,fun k=>box k≠none,β,tok,τ⟩ x v->ee ⟨w.setRow (β d) z.toArray,S,fun k=>updB box d ⟨false,im⟩ k≠none,β,tok,τ⟩ x v:=fun x v bd=>
  ⟨bd.1.mono hle (fun k A=>⟨by simp only[updB];split<;>first|exact A|simp,rfl⟩) (ha.refl rfl rfl),bd.2⟩
 have conv:∀ {k:Nat} {b:cf},updB box d ⟨false,im⟩ k=some b->∃bt,box k=some bt:=fun {k b} A=>by
  by_cases e:k=d
  .exact ⟨_,e▸bc⟩
  .simp only [updB,e,if_false]at A;exact⟨b,A⟩
 have K:Step (fun k=>k=β d) S S w (w.setRow (β d) z.toArray):=⟨⟨rfl,rfl,rfl,by rw[G];exact bC _,fun k A J=>y k J⟩,I,fun _ _ h=>h,fun _ _ h=>.inl h,fun b o au=>by rw[G];exact h.lt b o au⟩
 refine⟨⟨?_,h.cq,h.new,fun b o hc=>(I b o (h.cq b o hc)).trans (h.iP b o hc),fun b o au=>by rw[G];exact h.lt b o au,fun k b A=>?_,fun k aJ b bt A M e=>?_,fun t aa ax=>?_,h.eF,fun t aa k b ax A=>?_,fun k b au A=>?_,h.kS,fun n aa Q i o d J U V Y=>⟨(h.fQ n aa Q i o d J U V Y).1,fun gJ bc=>?_⟩⟩,hle⟩
 .refine h.ew.on (q:=fun k=>k=β d) ⟨rfl,rfl,rfl,by rw[G];exact bC _,fun k A J=>y k J⟩ (fun k e A=>?_)
  subst e
  rcases d1 with d1|d1
  .omega
  .exact d1
 .by_cases e:k=d
  .subst e
   simp[updB]at A;subst A
   exact⟨d1,fun _=>d2,(fun h=>by cases h),.inl ⟨O,z,T,setRow_heap w (β k) bQ.toArray _ T (0,0) d3,bB.imp lift⟩⟩
  .simp only [updB,e,if_false]at A
   obtain⟨aD,aV,Z,h2⟩:=h.boxes k b A
   exact⟨aD,aV,Z,h2.imp (y _ (fun lY=>e (h.jB k d b _ A bc lY))) lift⟩
 .obtain ⟨es,wk⟩:=conv A
  obtain⟨Vu,wm⟩:=conv M
  exact h.jB k aJ es Vu wk wm e
 .exact (h.bG t aa ax).step K fun b cM e=>h.fh t aa d _ ax bc (e▸cM)
 .obtain ⟨bt,M⟩:=conv A
  exact h.fh t aa k bt ax M
 .refine h.k6 k b au (fun e=>A ?_)
  by_cases de:k=d
  .rw [de,bc]at e;cases e
  .simp only [updB,de,if_false];exact e
 .obtain ⟨b,l,cap,cy,cb⟩:=(h.fQ n aa Q i o d J U V Y).2 gJ bc
  have cM:=(h.bG n aa J).block cy
  exact⟨b,l,cap,cy,(World.cell?_of_block (w:=w) (y b (fun e=>h.fh n aa _ _ J ‹_› (e▸cM)))).trans cb⟩
theorem Mem.mR (h:Mem R box tok β τ F S w) (d:Nat) (bc:tok d=none) (Y:R.gi d=none) (aa:Tok) (v:Value) (G:Nat->Prop)
  (bx:cg R.dm w S aa v G) (A:aa.whole=true) (p9:∀t bY b,tok t=some (.live bY)->G b->¬F t b) (Z:∀k b,box k=some b->¬G (β k)):
  Mem R box (updT tok d (some (.live aa))) β (fun t=>if t=d then v else τ t) (fun t=>if t=d then G else F t) S w:=by
 have live:∀ {t:Nat} {bY:Tok},t≠d->updT tok d (some (bb.live aa)) t=some (.live bY)->tok t=some (.live bY):=fun {t bY} e h=>by simpa only[updT,e,if_false]using h
 refine⟨h.ew,h.cq,h.new,h.iP,h.lt,fun k b au=>?_,h.jB,fun t bY ax=>?_,fun t dc O Q b I J y z=>?_,fun t bY k b ax au=>?_,h.k6,fun t fi bY cO ax=>?_,fun n bY aS i o c cD U V gS=>?_⟩
 .obtain ⟨I,J,p8,h2⟩:=h.boxes k b au
  refine⟨I,J,p8,h2.imp rfl fun x u bd=>⟨e9.mono (c:=⟨w,S,fun k=>box k≠none,β,tok,τ⟩) (c':=⟨w,S,fun k=>box k≠none,β,updT tok d (some (.live aa)),fun t=>if t=d then v else τ t⟩) ⟨fun _ _ h=>h,fun _ _ _=>rfl⟩ (fY.refl rfl rfl) (fun t ax=>by
   have e:t≠d:=fun e=>ax (e▸bc)
   simp only[updT,e,if_false]
   exact⟨ax,fun bY h=>⟨bY,h,trivial,rfl,fun hw=>⟨hw,rfl⟩⟩⟩) bd.1,bd.2⟩⟩
 .by_cases e:t=d
  .subst e
   simp[updT]at ax;subst ax
   simpa using bx
  .have:=h.bG t bY (live e ax)
   simpa[e]using this
 .by_cases K:t=d<;>by_cases M:dc=d
  .rw [K,M]
  .simp only [K,if_true]at y
   simp only[M,if_false]at z
   exact absurd z (p9 dc Q b (live M J) y)
  .simp only [K,if_false]at y
   simp only[M,if_true]at z
   exact absurd y (p9 t O b (live K I) z)
  .simp only [K,if_false]at y
   simp only[M,if_false]at z
   exact h.eF t dc O Q b (live K I) (live M J) y z
 .by_cases e:t=d
  .simp only [e,if_true];exact Z k b au
  .simp only [e,if_false];exact h.fh t bY k b (live e ax) au
 .by_cases e:t=d
  .subst e;rw[Y]at cO;cases cO
  .simp only [e,if_false];exact h.kS t fi bY cO (live e ax)
 .by_cases e:n=d
  .subst e
   simp[updT]at cD;subst cD
   unfold Tok.whole at A
   rw[U]at A
   cases aS with
   |nil=>cases V
   |cons _ _=>cases A
  .obtain ⟨I,J⟩:=h.fQ n bY aS i o c (live e cD) U V gS
   have vP:c≠d:=fun e=>I (e▸bc)
   simp only[updT,vP,e,if_false]
   exact⟨I,J⟩
end
theorem Ll :∀(L:List ar) (d:Nat) (v:ar) (i:Nat),dT (jV L d v) i=if d=i/\i<L.length then v else dT L i
 | [],d,v,i=>by simp[jV,dT]
 |x::L,0,v,0=>by simp[jV,dT]
 |x::L,0,v,i+1=>by simp[jV,dT]
 |x::L,d+1,v,0=>by simp[jV,dT]
 |x::L,d+1,v,i+1=>by simp[jV,dT,Ll L d v i]
theorem RM :∀(L:List ar) (d:Nat) (v:ar),(jV L d v).length=L.length
 | [],_,_=>rfl
 |_::_,0,_=>rfl
 |_::L,d+1,v=>by simp[jV,RM L d v]
theorem HN :∀(B:List (Nat×cf)) (k:Nat) (b:cf),aY (u0 B k b)=updB (aY B) k b
 | [],k,b=>by funext j;simp[u0,aY,updB]
 |(i,c)::B,k,b=>by
  funext j
  simp only[u0]
  by_cases h:i=k
  .subst h;simp only[if_true,aY,updB];split<;>rfl
  .rw [aA h]
   simp only[aY,HN B k b,updB]
   by_cases y:j=i
   .subst y;simp[h]
   .simp [y]
theorem mP :∀(T:List (Nat×Option bb)) (k:Nat) (x:Option bb),aF (jo T k x)=updT (aF T) k x
 | [],k,x=>by funext j;simp[jo,aF,updT]
 |(i,y)::T,k,x=>by
  funext j
  simp only[jo]
  by_cases h:i=k
  .subst h;simp only[if_true,aF,updT];split<;>rfl
  .rw [aA h]
   simp only[aF,mP T k x,updT]
   by_cases z:j=i
   .subst z;simp[h]
   .simp [z]
def bO.updB (e:bO) (f:Nat->Option cf):Nat->Option cf:=e.box.foldl (fun f x=>Go.Proofs.YtnkagklajgimlaaGreatDoor.updB f x.1 x.2) f
def bO.updT (e:bO) (f:Nat->Option bb):Nat->Option bb:=e.tok.foldl (fun f x=>Go.Proofs.YtnkagklajgimlaaGreatDoor.updT f x.1 x.2) f
theorem q2 (s:aX) (d:Option Nat) (e:bO):aY (s.app d e).B=e.updB (aY s.B):=by
 unfold aX.app bO.updB
 generalize e.box=l
 simp only
 generalize s.B=B
 induction l generalizing B with
 |nil=>rfl
 |cons x l y=>simp only[eR];rw[y,HN]
theorem nx (s:aX) (d:Option Nat) (e:bO):aF (s.app d e).T=e.updT (aF s.T):=by
 unfold aX.app bO.updT
 generalize e.tok=l
 simp only
 generalize s.T=B
 induction l generalizing B with
 |nil=>rfl
 |cons x l y=>simp only[eR];rw[y,mP]
theorem yE (s:aX) (d:Option Nat) (e:bO) (i:Nat):dT (s.app d e).L i=if d=some i/\i<s.L.length then e.val else dT s.L i:=by
 cases d with
 |none=>simp[aX.app]
 |some d=>simp only[aX.app,Ll,ic]
theorem DS (s:aX) (d:Option Nat) (e:bO):(s.app d e).L.length=s.L.length:=by
 cases d with
 |none=>rfl
 |some d=>simp only[aX.app,RM]
end Go.Proofs.YtnkagklajgimlaaGreatDoor
